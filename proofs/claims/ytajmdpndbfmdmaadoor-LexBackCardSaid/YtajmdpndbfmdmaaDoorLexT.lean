/-
  Plain theory of tokens: a token that may be, written and followed by nothing or a blank, is read as it was. Conditions: each lemma's own hypotheses.
-/
import Derived.Test.YtajmdpndbfmdmaaDoorLexA
import Derived.Test.YtajmdpndbfmdmaaDoorSt
import Derived.Test.YtajmdpndbfmdmaaDoorAgaA
namespace Go.Proofs.YtajmdpndbfmdmaaDoor
open Go
namespace Lx

def zero (x : Nat) : Bool := decide (x = 0) || decide (x = 9223372036854775808)
/-- May a token that is not the end be? -/
def okB (t : Tk) : Bool :=
  if t.1 = 3 then t.2.1.isEmpty && Fl.fle 0 t.2.2 && Fl.may t.2.2
  else if t.1 = 4 then zero t.2.2 && decide (t.2.1.length ≤ 4096)
  else if t.1 = 5 then zero t.2.2 && sgn t.2.1
  else if t.1 = 1 ∨ t.1 = 2 then zero t.2.2 && !t.2.1.isEmpty && decide (t.2.1.length ≤ 4096) && (match t.2.1 with | [] => false | c :: _ => isL c) && t.2.1.all nm && (wrd t.2.1 == decide (t.1 = 2))
  else false
/-- A token as it is written. -/
def wform (t : Tk) : List UInt8 := if t.1 = 3 then (textS t.2.2).data.toList else if t.1 = 4 then Sp.quoteL t.2.1 else t.2.1
/-- A token as it is read. -/
def clean (t : Tk) : Tk := (t.1, t.2.1, if t.1 = 3 then t.2.2 else 0)
/-- Nothing, or a blank. -/
def Gap (rest : List UInt8) : Prop := rest = [] ∨ ∃ r, rest = 32 :: r

theorem Gap.take {rest : List UInt8} (h : Gap rest) : rest.takeWhile nm = [] := by
  rcases h with rfl | ⟨r, rfl⟩
  · rfl
  · rw [List.takeWhile_cons, show nm 32 = false from by decide]; rfl
theorem run_gap {l rest : List UInt8} (hl : l.all nm = true) (h : Gap rest) : runL (l ++ rest) = l.length := by
  unfold runL
  rw [List.takeWhile_append_of_pos (fun a ha => List.all_eq_true.1 hl a ha), h.take, List.append_nil]
theorem take_app (l rest : List UInt8) : (l ++ rest).take l.length = l := by rw [List.take_left']; rfl

theorem okB_num {t : Tk} (h : okB t = true) (h3 : t.1 = 3) : t.2.1 = [] ∧ ∃ n : Nat, n < 9007199254740992 ∧ t.2.2 = Fl.W n := by
  unfold okB at h
  rw [if_pos h3, Bool.and_eq_true, Bool.and_eq_true] at h
  obtain ⟨⟨h1, h2⟩, h4⟩ := h
  refine ⟨by simpa using h1, ?_⟩
  cases Fl.make_of t.2.2 with
  | nan hN => unfold Fl.fle at h2; rw [hN] at h2; simp at h2
  | bad _ _ h5 => rw [h5] at h4; cases h4
  | int n hn e =>
    rw [e] at h2
    have := Fl.fle_W (a := 0) (b := n) (by decide) hn
    rw [Fl.W_zero] at this
    rw [this, decide_eq_true_iff] at h2
    exact ⟨n.toNat, by omega, by rw [e]; congr 1; omega⟩

theorem decDigits_head (u : Nat) : ∀ c r, Lib.decDigits u = c :: r → r ≠ [] → c.toNat ≠ 48 := by
  induction u using Nat.strongRecOn with
  | ind u ih =>
    intro c r e hr
    rw [Lib.decDigits.eq_1] at e
    by_cases h : u < 10
    · rw [dif_pos h] at e
      injection e with _ e2
      exact absurd e2.symm hr
    · rw [dif_neg h] at e
      cases hd : Lib.decDigits (u / 10) with
      | nil => exact absurd hd (decDigits_val _).2.2
      | cons d r2 =>
        rw [hd, List.cons_append] at e
        injection e with e1 e2
        subst e1
        by_cases h2 : r2 = []
        · subst h2
          by_cases h3 : u / 10 < 10
          · rw [Lib.decDigits.eq_1, dif_pos h3] at hd
            injection hd with hd _
            rw [← hd, UInt8.toNat_ofNat']
            omega
          · rw [Lib.decDigits.eq_1, dif_neg h3] at hd
            have := congrArg List.length hd
            rw [List.length_append] at this
            have h4 := (decDigits_val (u / 10 / 10)).2.2
            have h5 : (Lib.decDigits (u / 10 / 10)).length ≠ 0 := fun e => h4 (List.length_eq_zero_iff.1 e)
            simp at this
            exact absurd this h4
        · exact ih (u / 10) (by omega) d r2 hd h2
theorem nDigits_le (k : Nat) : ∀ u, u < 10 ^ (k + 1) → Lib.nDigits u ≤ k + 1 := by
  induction k with
  | zero => intro u h; rw [Lib.nDigits_small (by simpa using h)]; omega
  | succ k ih =>
    intro u h
    by_cases c : u < 10
    · rw [Lib.nDigits_small c]; omega
    · rw [Lib.nDigits_big c]
      have : u / 10 < 10 ^ (k + 1) := by
        rw [Nat.pow_succ] at h
        omega
      have := ih _ this
      omega

theorem text_W {n : Nat} (hn : n < 9007199254740992) : (textS (Fl.W n)).data.toList = Lib.decDigits n := by
  unfold textS
  rw [Fl.isN_W (by omega), Fl.num?_W (by omega)]
  show (strOf (Lib.itoa n)).data.toList = _
  rw [strOf_list, Lib.itoa_nonneg]

theorem dig_facts : ∀ c : UInt8, dig c = true → isL c = false ∧ nm c = true ∧ isB c = false ∧ c.toNat ≠ 47 := all_bytes (by decide +kernel)

theorem tok_num {n : Nat} (hn : n < 9007199254740992) {rest : List UInt8} (hg : Gap rest) : tokL (Lib.decDigits n ++ rest) = .ok ((3, [], Fl.W n), (Lib.decDigits n).length) := by
  obtain ⟨i1, i2, i3⟩ := decDigits_val n
  have hlen : (Lib.decDigits n).length ≤ 16 := by rw [Lib.decDigits_length]; exact nDigits_le 15 n (by omega)
  have hnm : (Lib.decDigits n).all nm = true := List.all_eq_true.2 fun c hc => (dig_facts c (List.all_eq_true.1 i1 c hc)).2.1
  have hrun := run_gap hnm hg
  have htk := take_app (Lib.decDigits n) rest
  have hhd := decDigits_head n
  generalize Lib.decDigits n = L at *
  cases L with
  | nil => exact absurd rfl i3
  | cons c r =>
    have hc : dig c = true := List.all_eq_true.1 i1 c (by simp)
    rw [List.cons_append] at hrun htk ⊢
    rw [tokL, if_neg (by rw [(dig_facts c hc).1]; simp), if_pos hc, hrun, htk, i2, if_neg]
    rintro (h | ⟨h1, h2⟩ | h | h)
    · rw [i1] at h; cases h
    · exact hhd c r rfl (by rintro rfl; simp at h2) h1
    · omega
    · omega

theorem clos_plain (c : UInt8) (t : List UInt8) (i : Nat) (h1 : c.toNat ≠ 34) (h2 : eol c = false) (h3 : c.toNat ≠ 92) : clos 34 (c :: t) i = clos 34 t (i + 1) := by
  have hc : c ≠ 34 := by rintro rfl; exact h1 rfl
  cases t with
  | nil => show (if c = 34 then i else 0) = 0; rw [if_neg hc]
  | cons d r => rw [clos, if_neg hc, if_neg (by rw [h2]; simp), if_neg h3]
theorem clos_esc (d : UInt8) (t : List UInt8) (i : Nat) (h : eol d = false) : clos 34 (92 :: d :: t) i = clos 34 t (i + 2) := by
  rw [clos, if_neg (by decide), if_neg (by decide), if_pos (by decide), if_neg (by rw [h]; simp)]
theorem hexb_facts : ∀ d, d < 16 → (Sp.hexb d).toNat ≠ 34 ∧ eol (Sp.hexb d) = false ∧ (Sp.hexb d).toNat ≠ 92 := by decide
theorem clos_qb (c : UInt8) (t : List UInt8) (i : Nat) : clos 34 (Sp.qb c ++ t) i = clos 34 t (i + (Sp.qb c).length) := by
  have hlt := c.toNat_lt
  unfold Sp.qb
  by_cases h1 : c.toNat = 34 ∨ c.toNat = 92
  · rw [if_pos h1]
    exact clos_esc c t i (by unfold eol; rw [Bool.or_eq_false_iff, decide_eq_false_iff_not, decide_eq_false_iff_not]; omega)
  · rw [if_neg h1]
    by_cases h2 : c.toNat = 10
    · rw [if_pos h2]; exact clos_esc 110 t i (by decide)
    · rw [if_neg h2]
      by_cases h3 : c.toNat = 9
      · rw [if_pos h3]; exact clos_esc 116 t i (by decide)
      · rw [if_neg h3]
        by_cases h4 : c.toNat = 13
        · rw [if_pos h4]; exact clos_esc 114 t i (by decide)
        · rw [if_neg h4]
          by_cases h5 : c.toNat < 32 ∨ 126 < c.toNat
          · rw [if_pos h5]
            obtain ⟨a1, a2, a3⟩ := hexb_facts (c.toNat / 16) (by omega)
            obtain ⟨b1, b2, b3⟩ := hexb_facts (c.toNat % 16) (by omega)
            show clos 34 (92 :: 120 :: Sp.hexb (c.toNat / 16) :: Sp.hexb (c.toNat % 16) :: t) i = _
            rw [clos_esc 120 _ i (by decide), clos_plain _ _ _ a1 a2 a3, clos_plain _ _ _ b1 b2 b3]
            rfl
          · rw [if_neg h5]
            exact clos_plain c t i (by omega) (by unfold eol; rw [Bool.or_eq_false_iff, decide_eq_false_iff_not, decide_eq_false_iff_not]; omega) (by omega)
theorem clos_body (l t : List UInt8) : ∀ i, clos 34 (Sp.body l ++ t) i = clos 34 t (i + (Sp.body l).length) := by
  induction l with
  | nil => intro i; rfl
  | cons c l ih =>
    intro i
    have e : Sp.body (c :: l) = Sp.qb c ++ Sp.body l := by unfold Sp.body; rw [List.flatMap_cons]
    rw [e, List.append_assoc, clos_qb, ih, List.length_append, Nat.add_assoc]
theorem clos_here (t : List UInt8) (i : Nat) : clos 34 (34 :: t) i = i := by
  cases t with
  | nil => show (if (34 : UInt8) = 34 then i else 0) = i; rw [if_pos rfl]
  | cons d r => rw [clos, if_pos rfl]

theorem tok_str {l : List UInt8} (hl : l.length ≤ 4096) (rest : List UInt8) : tokL (Sp.quoteL l ++ rest) = .ok ((4, l, 0), (Sp.quoteL l).length) := by
  have hq : Sp.quoteL l ++ rest = 34 :: (Sp.body l ++ 34 :: rest) := by unfold Sp.quoteL; simp
  have hc : clos 34 (Sp.body l ++ 34 :: rest) 1 = 1 + (Sp.body l).length := by rw [clos_body, clos_here]
  have ht : (Sp.body l ++ 34 :: rest).take (1 + (Sp.body l).length - 1) = Sp.body l := by rw [Nat.add_sub_cancel_left, List.take_left']; rfl
  have hp : plainV (strOf (Sp.body l)) = (strOf l, 0, 0) := by
    have := plain_quoted (strOf l) (by rw [← size_list, strOf_list]; exact hl)
    rwa [strOf_list] at this
  rw [hq, tokL, if_neg (by decide), if_neg (by decide), if_pos (by decide), hc, if_neg (by omega), ht, hp, if_neg (by simp), if_neg (by simp), strOf_list]
  have : 1 + (Sp.body l).length + 1 = (Sp.quoteL l).length := by unfold Sp.quoteL; simp; omega
  rw [this]

theorem sgn_facts : ∀ s ∈ signList, s.all (fun c => c != 32) = true ∧ (match s with | [] => False | c :: r => isL c = false ∧ dig c = false ∧ isQ c = false ∧ isB c = false ∧ (c.toNat = 47 → ∀ d ∈ r, d.toNat ≠ 47 ∧ d.toNat ≠ 42)) := by
  intro s hs
  have : ∀ s ∈ signList, (s.all (fun c => c != 32) && (match s with | [] => false | c :: r => !isL c && !dig c && !isQ c && !isB c && (c.toNat != 47 || r.all fun d => d.toNat != 47 && d.toNat != 42))) = true := by decide +kernel
  have h := this s hs
  rw [Bool.and_eq_true] at h
  refine ⟨h.1, ?_⟩
  cases s with
  | nil => simp at h
  | cons c r =>
    have h2 := h.2
    simp only [Bool.and_eq_true, Bool.not_eq_true', Bool.or_eq_true, bne_iff_ne, ne_eq, List.all_eq_true] at h2
    obtain ⟨⟨⟨⟨h3, h4⟩, h5⟩, h6⟩, h7⟩ := h2
    refine ⟨h3, h4, h5, h6, fun h8 d hd => ?_⟩
    rcases h7 with h7 | h7
    · exact absurd h8 h7
    · exact h7 d hd

theorem sgn_mem {s : List UInt8} (h : sgn s = true) : s ∈ signList := by
  unfold sgn at h
  rwa [List.contains_eq_mem, decide_eq_true_iff] at h
theorem sgn_gap {s rest : List UInt8} (hg : Gap rest) (k : Nat) (hk : s.length < k) (hl : k ≤ (s ++ rest).length) : sgn ((s ++ rest).take k) = false := by
  rw [← Bool.not_eq_true]
  intro h
  have hb := (sgn_facts _ (sgn_mem h)).1
  rcases hg with rfl | ⟨r, rfl⟩
  · simp at hl; omega
  · have : (32 : UInt8) ∈ (s ++ 32 :: r).take k := by
      rw [List.take_append, List.mem_append]
      right
      rw [show k - s.length = (k - s.length - 1) + 1 from by omega, List.take_succ_cons]
      simp
    have := List.all_eq_true.1 hb 32 this
    simp at this
theorem signLen_gap {s rest : List UInt8} (h : sgn s = true) (hg : Gap rest) : signLen (s ++ rest) = s.length := by
  obtain ⟨hl, hne⟩ := sgn_len s h
  have h0 : 0 < s.length := List.length_pos_iff.2 hne
  have hal : s.length ≤ (s ++ rest).length := by rw [List.length_append]; omega
  have hse : sgn ((s ++ rest).take s.length) = true := by rw [take_app]; exact h
  have hno : ∀ k, s.length < k → ¬ (k ≤ (s ++ rest).length ∧ sgn ((s ++ rest).take k) = true) := by
    intro k hk ⟨h1, h2⟩
    rw [sgn_gap hg k hk h1] at h2; cases h2
  unfold signLen
  have hcase : s.length = 1 ∨ s.length = 2 ∨ s.length = 3 := by omega
  rcases hcase with e | e | e
  · rw [if_neg (hno 3 (by omega)), if_neg (hno 2 (by omega)), if_pos ⟨by omega, by rw [← e]; exact hse⟩, e]
  · rw [if_neg (hno 3 (by omega)), if_pos ⟨by omega, by rw [← e]; exact hse⟩, e]
  · rw [if_pos ⟨by omega, by rw [← e]; exact hse⟩, e]

theorem tok_sign {s rest : List UInt8} (h : sgn s = true) (hg : Gap rest) : tokL (s ++ rest) = .ok ((5, s, 0), s.length) := by
  have hsl := signLen_gap h hg
  have htk := take_app s rest
  have hf := (sgn_facts s (sgn_mem h)).2
  obtain ⟨_, hne⟩ := sgn_len s h
  cases s with
  | nil => exact absurd rfl hne
  | cons c r =>
    obtain ⟨f1, f2, f3, f4, _⟩ := hf
    rw [List.cons_append] at hsl htk ⊢
    rw [tokL, if_neg (by rw [f1]; simp), if_neg (by rw [f2]; simp), if_neg (by rw [f3]; simp), hsl, htk, if_neg (by simp)]

theorem tok_name {s rest : List UInt8} {c : UInt8} {r : List UInt8} (e : s = c :: r) (hc : isL c = true) (ha : s.all nm = true) (hl : s.length ≤ 4096) (hg : Gap rest) :
    tokL (s ++ rest) = .ok ((if wrd s then 2 else 1, s, 0), s.length) := by
  have hrun := run_gap ha hg
  have htk := take_app s rest
  subst e
  rw [List.cons_append] at hrun htk ⊢
  rw [tokL, if_pos hc, hrun, htk, if_neg (by omega)]

theorem letter_facts : ∀ c : UInt8, isL c = true → isB c = false ∧ c.toNat ≠ 47 := all_bytes (by decide +kernel)

/-- How a written token begins: no blank, no comment. -/
def Head (l : List UInt8) : Prop := ∃ c r, l = c :: r ∧ isB c = false ∧ (c.toNat = 47 → r.head? ≠ some 47 ∧ r.head? ≠ some 42)

theorem tok_form {t : Tk} (h : okB t = true) {rest : List UInt8} (hg : Gap rest) :
    tokL (wform t ++ rest) = .ok (clean t, (wform t).length) ∧ Head (wform t ++ rest) ∧ wform t ≠ [] := by
  by_cases h3 : t.1 = 3
  · obtain ⟨h1, n, hn, h2⟩ := okB_num h h3
    have hw : wform t = Lib.decDigits n := by unfold wform; rw [if_pos h3, h2, text_W hn]
    have hcl : clean t = (3, [], Fl.W n) := by unfold clean; rw [if_pos h3, h3, h1, h2]
    obtain ⟨i1, i2, i3⟩ := decDigits_val n
    rw [hw, hcl]
    refine ⟨tok_num hn hg, ?_, i3⟩
    cases hd : Lib.decDigits n with
    | nil => exact absurd hd i3
    | cons c r =>
      have hc : dig c = true := List.all_eq_true.1 i1 c (by rw [hd]; simp)
      obtain ⟨_, _, f3, f4⟩ := dig_facts c hc
      exact ⟨c, r ++ rest, rfl, f3, fun e => absurd e f4⟩
  · have hcl : clean t = (t.1, t.2.1, 0) := by unfold clean; rw [if_neg h3]
    unfold okB at h
    rw [if_neg h3] at h
    by_cases h4 : t.1 = 4
    · rw [if_pos h4, Bool.and_eq_true, decide_eq_true_iff] at h
      have hw : wform t = Sp.quoteL t.2.1 := by unfold wform; rw [if_neg h3, if_pos h4]
      rw [hw, hcl, h4]
      exact ⟨tok_str h.2 rest, ⟨34, _, rfl, by decide, fun e => absurd e (by decide)⟩, by unfold Sp.quoteL; simp⟩
    · rw [if_neg h4] at h
      have hw : wform t = t.2.1 := by unfold wform; rw [if_neg h3, if_neg h4]
      rw [hw, hcl]
      by_cases h5 : t.1 = 5
      · rw [if_pos h5, Bool.and_eq_true] at h
        rw [h5]
        refine ⟨tok_sign h.2 hg, ?_, (sgn_len _ h.2).2⟩
        have hf := (sgn_facts _ (sgn_mem h.2)).2
        have hne := (sgn_len _ h.2).2
        cases hs : t.2.1 with
        | nil => exact absurd hs hne
        | cons c r =>
          rw [hs] at hf
          obtain ⟨_, _, _, f4, f5⟩ := hf
          refine ⟨c, r ++ rest, rfl, f4, fun e => ?_⟩
          have f6 := f5 e
          cases r with
          | nil =>
            rcases hg with rfl | ⟨r, rfl⟩
            · simp
            · simp
          | cons d r =>
            have := f6 d (by simp)
            constructor
            · intro e; simp at e; subst e; exact this.1 rfl
            · intro e; simp at e; subst e; exact this.2 rfl
      · rw [if_neg h5] at h
        by_cases h12 : t.1 = 1 ∨ t.1 = 2
        · rw [if_pos h12] at h
          simp only [Bool.and_eq_true, decide_eq_true_iff, beq_iff_eq] at h
          obtain ⟨⟨⟨⟨⟨_, g2⟩, g3⟩, g4⟩, g5⟩, g6⟩ := h
          cases hs : t.2.1 with
          | nil => rw [hs] at g4; cases g4
          | cons c r =>
            rw [hs] at g4 g5 g3 g6
            have hk : (if wrd (c :: r) then 2 else 1) = t.1 := by
              rw [g6]
              rcases h12 with e | e <;> rw [e] <;> rfl
            rw [tok_name rfl g4 g5 g3 hg, hk]
            obtain ⟨f1, f2⟩ := letter_facts c g4
            exact ⟨rfl, ⟨c, r ++ rest, rfl, f1, fun e => absurd e f2⟩, by simp⟩
        · rw [if_neg h12] at h; cases h

theorem step_form {t : Tk} (h : okB t = true) {rest : List UInt8} (hg : Gap rest) (p : Nat) (acc : List (Nat × Tk)) (ha : acc.length ≠ 16384) :
    stepL (wform t ++ rest, p, acc) = .inr (rest, p + (wform t).length, acc ++ [(p, clean t)]) := by
  obtain ⟨h1, ⟨c, r, h2, h3, h4⟩, _⟩ := tok_form h hg
  have hd : (wform t ++ rest).drop (wform t).length = rest := by rw [List.drop_left']; rfl
  rw [h2] at h1 hd ⊢
  rw [stepL, if_neg (by rw [h3]; simp), if_neg (fun e => (h4 e.1).1 e.2), if_neg (fun e => (h4 e.1).2 e.2), h1]
  simp only
  rw [if_neg ha, hd]
theorem step_blank (rest : List UInt8) (p : Nat) (acc : List (Nat × Tk)) : stepL (32 :: rest, p, acc) = .inr (rest, p + 1, acc) := by
  rw [stepL, if_pos (by decide)]

/-- Tokens as a text, a blank between each two. -/
def joinL : List Tk → List UInt8
  | [] => []
  | [t] => wform t
  | t :: u :: ts => wform t ++ 32 :: joinL (u :: ts)

/-- Two lists of tokens, but for places. -/
def Alike (m : List (Nat × Tk)) (l : List Tk) : Prop := m.map (·.2) = l.map clean

theorem lex_join : ∀ (ts : List Tk) (p : Nat) (acc : List (Nat × Tk)), (∀ t ∈ ts, okB t = true) → acc.length + ts.length ≤ 16384 →
    ∃ m q, Ends (joinL ts, p, acc) (acc ++ m ++ [(q, 0, [], 0)], 0, 0) ∧ m.map (·.2) = ts.map clean
  | [], p, acc, _, _ => ⟨[], p, by simpa using Ends.stop rfl, rfl⟩
  | [t], p, acc, ht, hl => by
    refine ⟨[(p, clean t)], p + (wform t).length, ?_, rfl⟩
    have h := step_form (ht t (by simp)) (.inl rfl) p acc (by simp at hl; omega)
    rw [List.append_nil] at h
    exact Ends.go h (Ends.stop rfl)
  | t :: u :: ts, p, acc, ht, hl => by
    simp only [List.length_cons] at hl
    obtain ⟨m, q, h1, h2⟩ := lex_join (u :: ts) (p + (wform t).length + 1) (acc ++ [(p, clean t)]) (fun x hx => ht x (by simp at hx ⊢; right; exact hx)) (by simp; omega)
    refine ⟨(p, clean t) :: m, q, ?_, by simp [h2]⟩
    have h := step_form (ht t (by simp)) (.inr ⟨joinL (u :: ts), rfl⟩) p acc (by omega)
    refine Ends.go h (Ends.go (step_blank _ _ _) ?_)
    simpa using h1
end Lx
end Go.Proofs.YtajmdpndbfmdmaaDoor
