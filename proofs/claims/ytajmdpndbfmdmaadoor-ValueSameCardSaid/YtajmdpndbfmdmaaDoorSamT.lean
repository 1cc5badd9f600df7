/-
  Plain theory of sameness: it is an equivalence; values that are the same have one type, truth and text; == is the same either way round. Conditions: each lemma's own hypotheses.
-/
import Derived.Test.YtajmdpndbfmdmaaDoorValH
namespace Go.Proofs.YtajmdpndbfmdmaaDoor
open Go Go.RowKit

section
variable {k k' k'' : Int} {x x' x'' : Nat} {s s' s'' : ByteArray} {r r' r'' : Int}

theorem may_kind (h : mayV k x s r = true) : k ≤ 8 ∧ numV k x = true := by
  unfold mayV at h
  simp only [Bool.and_eq_true, decide_eq_true_iff] at h
  exact h.1.1
/-- When two values are the same. -/
def Samed (k : Int) (x : Nat) (s : ByteArray) (r : Int) (k' : Int) (x' : Nat) (s' : ByteArray) (r' : Int) : Prop :=
  (isObj k = true ∧ isObj k' = true ∧ r = r') ∨ (k = k' ∧ isObj k = false ∧ (k = 0 ∨ k = 1 ∨ (k = 2 ∧ Fl.feq x x' = true) ∨ (k = 3 ∧ (Fl.feq x x' = true ∨ (Fl.isN x = true ∧ Fl.isN x' = true))) ∨ (k = 4 ∧ s.toList = s'.toList) ∨ (k = 5 ∧ r = r')))
theorem feqNaN (h : Fl.isN x = true) : Fl.feq x x' = false := by unfold Fl.feq; rw [h]; rfl
theorem strict_iff : strictV k x s r k' x' s' r' = true ↔ (isObj k = true ∧ isObj k' = true ∧ r = r') ∨ (k = k' ∧ isObj k = false ∧ (k = 0 ∨ k = 1 ∨ (k = 2 ∧ Fl.feq x x' = true) ∨ (k = 3 ∧ Fl.feq x x' = true) ∨ (k = 4 ∧ s.toList = s'.toList) ∨ (k = 5 ∧ r = r'))) := by
  unfold strictV
  by_cases ho : isObj k = true ∧ isObj k' = true
  · rw [if_pos ho, beq_iff_eq]
    constructor
    · intro h; exact .inl ⟨ho.1, ho.2, h⟩
    · rintro (h | h)
      · exact h.2.2
      · rw [ho.1] at h; cases h.2.1
  · rw [if_neg ho]
    by_cases e : k = k'
    · subst e
      have hno : isObj k = false := by
        cases e : isObj k with
        | true => exact absurd ⟨e, e⟩ ho
        | false => rfl
      rw [if_neg (by simp), hno]
      by_cases h0 : k = 0 ∨ k = 1
      · rw [if_pos h0]; simp; omega
      · rw [if_neg h0]
        by_cases h2 : k = 2 ∨ k = 3
        · rw [if_pos h2]
          rcases h2 with rfl | rfl <;> simp
        · rw [if_neg h2]
          by_cases h4 : k = 4
          · subst h4; simp
          · rw [if_neg h4]
            by_cases h5 : k = 5
            · subst h5; simp
            · rw [if_neg h5]; simp; omega
    · rw [if_pos e]
      constructor
      · intro h; cases h
      · rintro (h | h)
        · exact absurd ⟨h.1, h.2.1⟩ ho
        · exact absurd h.1 e
theorem same_iff : sameV k x s r k' x' s' r' = true ↔ Samed k x s r k' x' s' r' := by
  unfold sameV Samed
  by_cases e3 : k = 3 ∧ k' = 3 ∧ Fl.isN x = true
  · obtain ⟨rfl, rfl, hx⟩ := e3
    rw [if_pos ⟨rfl, rfl, hx⟩, show isObj 3 = false from by decide, feqNaN hx]
    simp [hx]
  · rw [if_neg e3, strict_iff]
    constructor
    · rintro (h | ⟨h1, h2, h3⟩)
      · exact .inl h
      · refine .inr ⟨h1, h2, ?_⟩
        rcases h3 with h | h | h | h | h | h
        · exact .inl h
        · exact .inr (.inl h)
        · exact .inr (.inr (.inl h))
        · exact .inr (.inr (.inr (.inl ⟨h.1, .inl h.2⟩)))
        · exact .inr (.inr (.inr (.inr (.inl h))))
        · exact .inr (.inr (.inr (.inr (.inr h))))
    · rintro (h | ⟨h1, h2, h3⟩)
      · exact .inl h
      · refine .inr ⟨h1, h2, ?_⟩
        rcases h3 with h | h | h | ⟨h, h' | h'⟩ | h | h
        · exact .inl h
        · exact .inr (.inl h)
        · exact .inr (.inr (.inl h))
        · exact .inr (.inr (.inr (.inl ⟨h, h'⟩)))
        · exact absurd ⟨h, h1.symm.trans h, h'.1⟩ e3
        · exact .inr (.inr (.inr (.inr (.inl h))))
        · exact .inr (.inr (.inr (.inr (.inr h))))
theorem feq_parts (h : Fl.feq x x' = true) : Fl.isN x = false ∧ Fl.isN x' = false ∧ Fl.key x = Fl.key x' := by
  unfold Fl.feq at h
  simp only [Bool.and_eq_true, Bool.not_eq_true', decide_eq_true_iff] at h
  exact ⟨h.1.1, h.1.2, h.2⟩
theorem feq_mk (h1 : Fl.isN x = false) (h2 : Fl.isN x' = false) (h3 : Fl.key x = Fl.key x') : Fl.feq x x' = true := by
  unfold Fl.feq; rw [h1, h2, decide_eq_true h3]; rfl
theorem samed_comm (h : Samed k x s r k' x' s' r') : Samed k' x' s' r' k x s r := by
  rcases h with h | ⟨rfl, h2, h3⟩
  · exact .inl ⟨h.2.1, h.1, h.2.2.symm⟩
  · refine .inr ⟨rfl, h2, ?_⟩
    rcases h3 with h | h | h | ⟨h, h' | h'⟩ | h | h
    · exact .inl h
    · exact .inr (.inl h)
    · exact .inr (.inr (.inl ⟨h.1, by rw [Fl.feq_comm]; exact h.2⟩))
    · exact .inr (.inr (.inr (.inl ⟨h, .inl (by rw [Fl.feq_comm]; exact h')⟩)))
    · exact .inr (.inr (.inr (.inl ⟨h, .inr ⟨h'.2, h'.1⟩⟩)))
    · exact .inr (.inr (.inr (.inr (.inl ⟨h.1, h.2.symm⟩))))
    · exact .inr (.inr (.inr (.inr (.inr ⟨h.1, h.2.symm⟩))))
theorem same_comm : sameV k x s r k' x' s' r' = sameV k' x' s' r' k x s r := by
  rw [Bool.eq_iff_iff, same_iff, same_iff]
  exact ⟨samed_comm, samed_comm⟩
theorem same_refl (hk : 0 ≤ k) (h : mayV k x s r = true) : sameV k x s r k x s r = true := by
  obtain ⟨hk8, hn⟩ := may_kind h
  rw [same_iff]
  by_cases ho : isObj k = true
  · exact .inl ⟨ho, ho, rfl⟩
  · have hno := Bool.eq_false_iff.2 ho
    refine .inr ⟨rfl, hno, ?_⟩
    have := isObj_false hno
    have hc : k = 0 ∨ k = 1 ∨ k = 2 ∨ k = 3 ∨ k = 4 ∨ k = 5 := by omega
    rcases hc with rfl | rfl | rfl | rfl | rfl | rfl
    · exact .inl rfl
    · exact .inr (.inl rfl)
    · refine .inr (.inr (.inl ⟨rfl, ?_⟩))
      unfold numV at hn
      simp at hn
      rcases hn with rfl | rfl <;> decide
    · refine .inr (.inr (.inr (.inl ⟨rfl, ?_⟩)))
      cases e : Fl.isN x with
      | true => exact .inr ⟨rfl, rfl⟩
      | false => exact .inl (feq_mk e e rfl)
    · exact .inr (.inr (.inr (.inr (.inl ⟨rfl, rfl⟩))))
    · exact .inr (.inr (.inr (.inr (.inr ⟨rfl, rfl⟩))))
theorem same_trans (h : sameV k x s r k' x' s' r' = true) (g : sameV k' x' s' r' k'' x'' s'' r'' = true) : sameV k x s r k'' x'' s'' r'' = true := by
  rw [same_iff] at h g ⊢
  rcases h with ⟨a1, a2, a3⟩ | ⟨rfl, a2, a3⟩ <;> rcases g with ⟨b1, b2, b3⟩ | ⟨rfl, b2, b3⟩
  · exact .inl ⟨a1, b2, a3.trans b3⟩
  · rw [a2] at b2; cases b2
  · rw [a2] at b1; cases b1
  · refine .inr ⟨rfl, a2, ?_⟩
    rcases a3 with h | h | h | ⟨h, h'⟩ | h | h
    · exact .inl h
    · exact .inr (.inl h)
    · obtain ⟨rfl, h⟩ := h
      simp at b3
      obtain ⟨p1, p2, p3⟩ := feq_parts h
      obtain ⟨q1, q2, q3⟩ := feq_parts b3
      exact .inr (.inr (.inl ⟨rfl, feq_mk p1 q2 (p3.trans q3)⟩))
    · subst h
      simp at b3
      refine .inr (.inr (.inr (.inl ⟨rfl, ?_⟩)))
      rcases h' with h' | h' <;> rcases b3 with b3 | b3
      · obtain ⟨p1, p2, p3⟩ := feq_parts h'
        obtain ⟨q1, q2, q3⟩ := feq_parts b3
        exact .inl (feq_mk p1 q2 (p3.trans q3))
      · have := (feq_parts h').2.1; rw [b3.1] at this; cases this
      · have := (feq_parts b3).1; rw [h'.2] at this; cases this
      · exact .inr ⟨h'.1, b3.2⟩
    · obtain ⟨rfl, h⟩ := h
      simp at b3
      exact .inr (.inr (.inr (.inr (.inl ⟨rfl, h.trans b3⟩))))
    · obtain ⟨rfl, h⟩ := h
      simp at b3
      exact .inr (.inr (.inr (.inr (.inr ⟨rfl, h.trans b3⟩))))
theorem strict_same : strictV k x s r k' x' s' r' = (sameV k x s r k' x' s' r' && !(decide (k = 3) && Fl.isN x)) := by
  rw [Bool.eq_iff_iff, Bool.and_eq_true, same_iff, strict_iff]
  constructor
  · rintro (⟨h1, h2, h3⟩ | ⟨rfl, h2, h3⟩)
    · refine ⟨.inl ⟨h1, h2, h3⟩, ?_⟩
      have := isObj_true h1
      rw [decide_eq_false (by omega)]; rfl
    · rcases h3 with h | h | h | h | h | h
      · exact ⟨.inr ⟨rfl, h2, .inl h⟩, by subst h; rfl⟩
      · exact ⟨.inr ⟨rfl, h2, .inr (.inl h)⟩, by subst h; rfl⟩
      · exact ⟨.inr ⟨rfl, h2, .inr (.inr (.inl h))⟩, by obtain ⟨rfl, _⟩ := h; rfl⟩
      · refine ⟨.inr ⟨rfl, h2, .inr (.inr (.inr (.inl ⟨h.1, .inl h.2⟩)))⟩, ?_⟩
        rw [(feq_parts h.2).1]; simp
      · exact ⟨.inr ⟨rfl, h2, .inr (.inr (.inr (.inr (.inl h))))⟩, by obtain ⟨rfl, _⟩ := h; rfl⟩
      · exact ⟨.inr ⟨rfl, h2, .inr (.inr (.inr (.inr (.inr h))))⟩, by obtain ⟨rfl, _⟩ := h; rfl⟩
  · rintro ⟨h, hn⟩
    rcases h with h | ⟨rfl, h2, h3⟩
    · exact .inl h
    · refine .inr ⟨rfl, h2, ?_⟩
      rcases h3 with h | h | h | ⟨h, h' | h'⟩ | h | h
      · exact .inl h
      · exact .inr (.inl h)
      · exact .inr (.inr (.inl h))
      · exact .inr (.inr (.inr (.inl ⟨h, h'⟩)))
      · rw [h'.1, decide_eq_true h] at hn; cases hn
      · exact .inr (.inr (.inr (.inr (.inl h))))
      · exact .inr (.inr (.inr (.inr (.inr h))))
theorem bytes_eq (h : s.toList = s'.toList) : s = s' := by
  rw [Lib.toList_data, Lib.toList_data] at h
  exact ByteArray.ext (Array.toList_inj.1 h)
/-- Two numbers that may be and are equal are one. -/
theorem num_eq {j : Int} (hj : j = 2 ∨ j = 3) (h1 : numV j x = true) (h2 : numV j x' = true) (h : Fl.feq x x' = true) : x = x' := by
  obtain ⟨p1, p2, p3⟩ := feq_parts h
  rcases hj with rfl | rfl
  · unfold numV at h1 h2
    simp at h1 h2
    rcases h1 with rfl | rfl <;> rcases h2 with rfl | rfl
    · rfl
    · exact absurd h (by decide +kernel)
    · exact absurd h (by decide +kernel)
    · rfl
  · have g1 : Fl.may x = true := h1
    have g2 : Fl.may x' = true := h2
    cases Fl.make_of x with
    | nan e => rw [e] at p1; cases p1
    | bad _ _ e => rw [e] at g1; cases g1
    | int n hn e =>
      cases Fl.make_of x' with
      | nan e' => rw [e'] at p2; cases p2
      | bad _ _ e' => rw [e'] at g2; cases g2
      | int n' hn' e' =>
        rw [e, e', Fl.feq_W hn hn', decide_eq_true_iff] at h
        rw [e, e', h]
theorem truth_obj (h : isObj k = true) : truthV k x s = true := by
  have := isObj_true h
  unfold truthV; rw [if_neg (by omega), if_neg (by omega), if_neg (by omega), h]
theorem text_obj (h : isObj k = true) : textV k x s r = objT r := by
  have := isObj_true h
  unfold textV; rw [if_neg (by omega), if_neg (by omega), if_neg (by omega), if_neg (by omega), if_neg (by omega), if_neg (by omega), if_pos h]
theorem text_zero : textV 0 x s r = ⟨#[117, 110, 100, 101, 102, 105, 110, 101, 100]⟩ := by unfold textV; rw [if_pos rfl]
theorem text_one : textV 1 x s r = ⟨#[110, 117, 108, 108]⟩ := by unfold textV; rw [if_neg (by decide), if_pos rfl]
theorem text_three : textV 3 x s r = textS x := by unfold textV; rw [if_neg (by decide), if_neg (by decide), if_neg (by decide), if_pos rfl]
theorem text_four : textV 4 x s r = strOf (Sp.quoteL s.data.toList) := by unfold textV; rw [if_neg (by decide), if_neg (by decide), if_neg (by decide), if_neg (by decide), if_pos rfl]
theorem text_five : textV 5 x s r = symT r := by unfold textV; rw [if_neg (by decide), if_neg (by decide), if_neg (by decide), if_neg (by decide), if_neg (by decide), if_pos rfl]
theorem truth_low (h : k = 0 ∨ k = 1) : truthV k x s = false := by
  unfold truthV
  rw [if_neg (by omega), if_neg (by omega), if_neg (by omega)]
  rcases h with rfl | rfl <;> decide
theorem text_two : textV 2 x s r = (if Fl.feq x 0 then ⟨#[102, 97, 108, 115, 101]⟩ else ⟨#[116, 114, 117, 101]⟩) := by unfold textV; rw [if_neg (by decide), if_neg (by decide), if_pos rfl]
theorem truth_num (h : k = 2 ∨ k = 3) : truthV k x s = (!Fl.feq x 0 && !Fl.isN x) := by unfold truthV; rw [if_pos h]
theorem truth_four : truthV 4 x s = decide (s.size ≠ 0) := by unfold truthV; rw [if_neg (by decide), if_pos rfl]
theorem truth_five : truthV 5 x s = true := by unfold truthV; rw [if_neg (by decide), if_neg (by decide), if_pos rfl]
theorem same_shown (ma : mayV k x s r = true) (mb : mayV k' x' s' r' = true) (hs : sameV k x s r k' x' s' r' = true) (hc : callsV k = callsV k') :
    typeV k = typeV k' ∧ truthV k x s = truthV k' x' s' ∧ textV k x s r = textV k' x' s' r' := by
  rw [same_iff] at hs
  rcases hs with ⟨h1, h2, rfl⟩ | ⟨rfl, h2, h3⟩
  · have a := isObj_true h1
    have b := isObj_true h2
    have ht : typeV k = typeV k' := by
      have ha : k = 6 ∨ k = 7 ∨ k = 8 := by omega
      have hb : k' = 6 ∨ k' = 7 ∨ k' = 8 := by omega
      rcases ha with rfl | rfl | rfl <;> rcases hb with rfl | rfl | rfl
      all_goals first | rfl | exact absurd hc (by decide) | decide
    refine ⟨ht, (truth_obj h1).trans (truth_obj h2).symm, (text_obj h1).trans (text_obj h2).symm⟩
  · have na := (may_kind ma).2
    have nb := (may_kind mb).2
    rcases h3 with h | h | h | ⟨h, h' | h'⟩ | h | h
    · subst h; exact ⟨rfl, (truth_low (.inl rfl)).trans (truth_low (.inl rfl)).symm, text_zero.trans text_zero.symm⟩
    · subst h; exact ⟨rfl, (truth_low (.inr rfl)).trans (truth_low (.inr rfl)).symm, text_one.trans text_one.symm⟩
    · obtain ⟨rfl, h⟩ := h
      have := num_eq (.inl rfl) na nb h
      subst this; exact ⟨rfl, (truth_num (.inl rfl)).trans (truth_num (.inl rfl)).symm, text_two.trans text_two.symm⟩
    · subst h
      have := num_eq (.inr rfl) na nb h'
      subst this; exact ⟨rfl, (truth_num (.inr rfl)).trans (truth_num (.inr rfl)).symm, text_three.trans text_three.symm⟩
    · subst h
      refine ⟨rfl, ?_, ?_⟩
      · rw [truth_num (.inr rfl), truth_num (.inr rfl), h'.1, h'.2]; simp
      · rw [text_three, text_three]
        unfold textS; rw [if_pos h'.1, if_pos h'.2]
    · obtain ⟨rfl, h⟩ := h
      have := bytes_eq h
      subst this; exact ⟨rfl, truth_four.trans truth_four.symm, text_four.trans text_four.symm⟩
    · obtain ⟨rfl, rfl⟩ := h
      exact ⟨rfl, truth_five.trans truth_five.symm, text_five.trans text_five.symm⟩
theorem strict_comm : strictV k x s r k' x' s' r' = strictV k' x' s' r' k x s r := by
  rw [strict_same, strict_same, same_comm]
  by_cases h : sameV k' x' s' r' k x s r = true
  · rw [h, Bool.true_and, Bool.true_and]
    rw [same_iff] at h
    rcases h with ⟨h1, h2, _⟩ | ⟨rfl, h2, h3⟩
    · have a := isObj_true h1
      have b := isObj_true h2
      rw [decide_eq_false (by omega), decide_eq_false (by omega)]; rfl
    · rcases h3 with h | h | h | ⟨h, h' | h'⟩ | h | h
      · subst h; rfl
      · subst h; rfl
      · obtain ⟨rfl, _⟩ := h; rfl
      · rw [(feq_parts h').1, (feq_parts h').2.1]
      · rw [h'.1, h'.2]
      · obtain ⟨rfl, _⟩ := h; rfl
      · obtain ⟨rfl, _⟩ := h; rfl
  · rw [Bool.eq_false_iff.2 h]; rfl
theorem plainT_comm : plainT k x s r k' x' s' r' = plainT k' x' s' r' k x s r := by
  unfold plainT
  by_cases e : k = k'
  · rw [if_pos e, if_pos e.symm, strict_comm]
  · rw [if_neg e, if_neg (show ¬ k' = k from fun g => e g.symm)]
    by_cases h1 : k ≤ 1 ∧ k' ≤ 1
    · rw [if_pos h1, if_pos ⟨h1.2, h1.1⟩]
    · rw [if_neg h1, if_neg (show ¬ (k' ≤ 1 ∧ k ≤ 1) from fun g => h1 ⟨g.2, g.1⟩)]
      by_cases h2 : k = 4 ∧ k' = 3
      · rw [if_pos h2, if_neg (show ¬ (k' = 4 ∧ k = 3) by omega), if_pos ⟨h2.2, h2.1⟩]
      · rw [if_neg h2]
        by_cases h3 : k = 3 ∧ k' = 4
        · rw [if_pos h3, if_pos ⟨h3.2, h3.1⟩]
        · rw [if_neg h3, if_neg (show ¬ (k' = 4 ∧ k = 3) from fun g => h3 ⟨g.2, g.1⟩), if_neg (show ¬ (k' = 3 ∧ k = 4) from fun g => h2 ⟨g.2, g.1⟩)]
theorem plainG_comm : plainG k x s r k' x' s' r' = plainG k' x' s' r' k x s r := by
  unfold plainG
  by_cases h : mayV k x s r = true ∧ mayV k' x' s' r' = true ∧ isObj k = false ∧ isObj k' = false
  · rw [if_pos h, if_pos ⟨h.2.1, h.1, h.2.2.2, h.2.2.1⟩]
    unfold plainS
    by_cases e : k = k'
    · rw [if_pos e, if_pos e.symm, strict_comm]
    · rw [if_neg e, if_neg (show ¬ k' = k from fun g => e g.symm)]
      by_cases h2 : k = 2
      · rw [if_pos h2, if_neg (show ¬ k' = 2 by omega), if_pos h2, plainT_comm]
      · rw [if_neg h2]
        by_cases h3 : k' = 2
        · rw [if_pos h3, if_pos h3, plainT_comm]
        · rw [if_neg h3, if_neg h3, if_neg h2, plainT_comm]
  · rw [if_neg h, if_neg (show ¬ (mayV k' x' s' r' = true ∧ mayV k x s r = true ∧ isObj k' = false ∧ isObj k = false) from fun g => h ⟨g.2.1, g.1, g.2.2.2, g.2.2.1⟩)]
theorem plainG_obj (h : isObj k = true ∨ isObj k' = true) : plainG k x s r k' x' s' r' = (false, 9) := by
  unfold plainG
  rw [if_neg]
  rintro ⟨_, _, h1, h2⟩
  rcases h with h | h
  · rw [h] at h1; cases h1
  · rw [h] at h2; cases h2
theorem plainG_strict (ma : mayV k x s r = true) (mb : mayV k' x' s' r' = true) (h1 : isObj k = false) (h2 : isObj k' = false) (h : strictV k x s r k' x' s' r' = true) : plainG k x s r k' x' s' r' = (true, 0) := by
  have hs := h
  rw [strict_iff] at h
  unfold plainG
  rw [if_pos ⟨ma, mb, h1, h2⟩]
  unfold plainS
  rcases h with h | h
  · rw [h.1] at h1; cases h1
  · rw [if_pos h.1, hs]
end
end Go.Proofs.YtajmdpndbfmdmaaDoor
