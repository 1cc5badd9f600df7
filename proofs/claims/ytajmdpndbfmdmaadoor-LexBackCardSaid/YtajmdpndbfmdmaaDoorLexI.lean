/-
  Plain theory of tokens: what is known of the tokens that a text is cut into; tokens with comments between. Conditions: each lemma's own hypotheses.
-/
import Derived.Test.YtajmdpndbfmdmaaDoorLexT
namespace Go.Proofs.YtajmdpndbfmdmaaDoor
open Go
namespace Lx

theorem clos_le (q : UInt8) : ∀ (l : List UInt8) (i : Nat), clos q l i ≠ 0 → i ≤ clos q l i ∧ clos q l i < i + l.length
  | [], i, h => by simp [clos] at h
  | [c], i, h => by
    rw [clos] at h ⊢
    split
    · simp
    · rename_i g; rw [if_neg g] at h; exact absurd rfl h
  | c :: d :: r, i, h => by
    rw [clos] at h ⊢
    by_cases h1 : c = q
    · rw [if_pos h1]; simp
    · rw [if_neg h1] at h ⊢
      by_cases h2 : eol c = true
      · rw [if_pos h2] at h; exact absurd rfl h
      · rw [if_neg h2] at h ⊢
        by_cases h3 : c.toNat = 92
        · rw [if_pos h3] at h ⊢
          by_cases h4 : eol d = true
          · rw [if_pos h4] at h; exact absurd rfl h
          · rw [if_neg h4] at h ⊢
            have := clos_le q r (i + 2) h
            simp only [List.length_cons]; omega
        · rw [if_neg h3] at h ⊢
          have := clos_le q (d :: r) (i + 1) h
          simp only [List.length_cons] at this ⊢; omega

theorem runL_le (l : List UInt8) : runL l ≤ l.length := by unfold runL; exact (List.takeWhile_sublist _).length_le
theorem run_take (l : List UInt8) : l.take (runL l) = l.takeWhile nm := by
  unfold runL
  have := List.takeWhile_append_dropWhile (p := nm) (l := l)
  conv => lhs; rw [← this]
  rw [List.take_left']; simp
theorem all_takeWhile (p : UInt8 → Bool) : ∀ l : List UInt8, (l.takeWhile p).all p = true
  | [] => rfl
  | c :: l => by
    rw [List.takeWhile_cons]
    split
    · rename_i h; rw [List.all_cons, h, all_takeWhile p l]; rfl
    · rfl
theorem signLen_spec (l : List UInt8) (h : signLen l ≠ 0) : signLen l ≤ l.length ∧ sgn (l.take (signLen l)) = true := by
  unfold signLen at h ⊢
  split
  · rename_i g; exact g
  · split
    · rename_i g; exact g
    · split
      · rename_i g; exact g
      · rename_i g1 g2 g3; rw [if_neg g1, if_neg g2, if_neg g3] at h; exact absurd rfl h

theorem plainV_err {s : ByteArray} (h : (plainV s).2.2 = 5) : (plainV s).2.1 < s.size := by
  unfold plainV at h ⊢
  by_cases c : 65536 < s.size
  · rw [if_pos c] at h; cases h
  · rw [if_neg c] at h ⊢
    cases hr : plainR s with
    | error p =>
      have := Sp.plainF_place _ _ _ _ _ hr
      rw [size_list] at this
      simpa using this.2
    | ok l =>
      rw [hr] at h
      simp only at h
      split at h <;> cases h
theorem plainV_ok {s : ByteArray} (h : (plainV s).2.2 = 0) : (plainV s).1.size ≤ 4096 := by
  unfold plainV at h ⊢
  by_cases c : 65536 < s.size
  · rw [if_pos c] at h; cases h
  · rw [if_neg c] at h ⊢
    cases hr : plainR s with
    | error p => rw [hr] at h; cases h
    | ok l =>
      rw [hr] at h
      simp only at h ⊢
      split at h
      · cases h
      · rename_i g
        rw [if_neg g]
        simp only
        rw [← size_list, strOf_list]; omega

theorem zero_zero : zero 0 = true := by decide

theorem tok_good {c : UInt8} {r : List UInt8} {t : Tk} {n : Nat} (h : tokL (c :: r) = .ok (t, n)) :
    okB t = true ∧ 1 ≤ n ∧ n ≤ (c :: r).length ∧ (t.1 = 1 ∨ t.1 = 2 ∨ t.1 = 5 → n = t.2.1.length ∧ (c :: r).take n = t.2.1) := by
  rw [tokL] at h
  have hrl := runL_le (c :: r)
  have hrt := run_take (c :: r)
  have hall := all_takeWhile nm (c :: r)
  rw [← hrt] at hall
  by_cases h1 : isL c = true
  · rw [if_pos h1] at h
    have hnm : nm c = true := by unfold nm; rw [h1]; rfl
    have hr1 : 1 ≤ runL (c :: r) := by unfold runL; rw [List.takeWhile_cons, hnm]; simp
    have htl : ((c :: r).take (runL (c :: r))).length = runL (c :: r) := by rw [List.length_take]; omega
    by_cases h2 : 4096 < runL (c :: r)
    · rw [if_pos h2] at h; cases h
    · rw [if_neg h2] at h
      injection h with h
      obtain ⟨k, hk⟩ : ∃ k, runL (c :: r) = k + 1 := ⟨runL (c :: r) - 1, by omega⟩
      generalize hT : (c :: r).take (runL (c :: r)) = T at *
      have hcons : ∃ r2, T = c :: r2 := by rw [← hT, hk, List.take_succ_cons]; exact ⟨_, rfl⟩
      obtain ⟨r2, hr2⟩ := hcons
      injection h with ht hn
      subst ht hn
      refine ⟨?_, hr1, hrl, fun _ => ⟨htl.symm, hT⟩⟩
      have hb : ∀ k : Nat, (k = 1 ∨ k = 2) → wrd T = decide (k = 2) → okB (k, T, 0) = true := by
        intro k hk hw
        unfold okB
        simp only
        rw [if_neg (by omega), if_neg (by omega), if_neg (by omega), if_pos hk, hall, hw, zero_zero, hr2, decide_eq_true (by rw [← hr2]; omega)]
        simp [h1]
      by_cases hw : wrd T = true
      · rw [if_pos hw]; exact hb 2 (.inr rfl) (by rw [hw]; rfl)
      · rw [if_neg hw]; exact hb 1 (.inl rfl) (by rw [Bool.not_eq_true] at hw; rw [hw]; rfl)
  · rw [if_neg h1] at h
    by_cases h2 : dig c = true
    · rw [if_pos h2] at h
      have hnm : nm c = true := by unfold nm; rw [h2]; simp
      have hr1 : 1 ≤ runL (c :: r) := by unfold runL; rw [List.takeWhile_cons, hnm]; simp
      split at h
      · cases h
      · rename_i g
        injection h with h
        injection h with ht hn
        subst ht hn
        refine ⟨?_, hr1, hrl, by intro e; simp at e⟩
        have hv : valL ((c :: r).take (runL (c :: r))) ≤ 9007199254740991 := by
          rcases Nat.lt_or_ge 9007199254740991 (valL ((c :: r).take (runL (c :: r)))) with g2 | g2
          · exact absurd (.inr (.inr (.inr g2))) g
          · exact g2
        generalize valL ((c :: r).take (runL (c :: r))) = v at hv
        unfold okB
        have h3 := Fl.fle_W (a := 0) (b := v) (by decide) (by omega)
        rw [Fl.W_zero, decide_eq_true (by omega)] at h3
        have h4 := Fl.may_W (n := v)
        rw [decide_eq_true (by omega)] at h4
        simp only [if_true]
        rw [h3, h4]; rfl
    · rw [if_neg h2] at h
      by_cases h3 : isQ c = true
      · rw [if_pos h3] at h
        by_cases h4 : clos c r 1 = 0
        · rw [if_pos h4] at h; cases h
        · rw [if_neg h4] at h
          have hc := clos_le c r 1 h4
          split at h
          · cases h
          · split at h
            · cases h
            · rename_i g1 g2
              have g3 : (plainV (strOf (r.take (clos c r 1 - 1)))).2.2 = 0 := by
                rcases Nat.eq_zero_or_pos (plainV (strOf (r.take (clos c r 1 - 1)))).2.2 with e | e
                · exact e
                · exact absurd (by omega) g2
              have g4 := plainV_ok g3
              injection h with h
              injection h with ht hn
              subst ht hn
              refine ⟨?_, by omega, by simp only [List.length_cons]; omega, by intro e; simp at e⟩
              unfold okB
              simp only
              rw [if_neg (by decide), if_pos trivial, zero_zero, size_list, decide_eq_true g4]; rfl
      · rw [if_neg h3] at h
        by_cases h4 : signLen (c :: r) = 0
        · rw [if_pos h4] at h; cases h
        · rw [if_neg h4] at h
          obtain ⟨s1, s2⟩ := signLen_spec _ h4
          injection h with h
          injection h with ht hn
          subst ht hn
          refine ⟨?_, by omega, s1, fun _ => ⟨by simp only; rw [List.length_take]; omega, rfl⟩⟩
          unfold okB
          simp only
          rw [if_neg (by decide), if_neg (by decide), if_pos trivial, zero_zero, s2]; rfl

theorem tok_bad {c : UInt8} {r : List UInt8} {p : Nat} (h : tokL (c :: r) = .error p) : p ≤ (c :: r).length := by
  rw [tokL] at h
  split at h
  · split at h
    · injection h with h; omega
    · cases h
  · split at h
    · split at h
      · injection h with h; omega
      · cases h
    · split at h
      · split at h
        · injection h with h; omega
        · rename_i h4
          split at h
          · rename_i g
            have := plainV_err g
            have h5 : (strOf (r.take (clos c r 1 - 1))).size ≤ r.length := by rw [← size_list, strOf_list, List.length_take]; omega
            injection h with h
            simp only [List.length_cons]; omega
          · split at h
            · injection h with h; omega
            · cases h
      · split at h
        · injection h with h; omega
        · cases h

/-- A token at its place in a text. -/
def OkAt (S : List UInt8) (x : Nat × Tk) : Prop :=
  okB x.2 = true ∧ (x.2.1 = 1 ∨ x.2.1 = 2 ∨ x.2.1 = 5 → x.1 + x.2.2.1.length ≤ S.length ∧ (S.drop x.1).take x.2.2.1.length = x.2.2.1)
def Inv (S : List UInt8) (st : St) : Prop :=
  st.2.1 ≤ S.length ∧ st.1 = S.drop st.2.1 ∧ st.2.2.length ≤ 16384 ∧ (∀ x ∈ st.2.2, OkAt S x ∧ x.1 < st.2.1) ∧ st.2.2.Pairwise (fun a b => a.1 < b.1)
def Final (S : List UInt8) (res : Res) : Prop :=
  (∃ m, res = (m ++ [(S.length, 0, [], 0)], 0, 0) ∧ m.length ≤ 16384 ∧ (∀ x ∈ m, OkAt S x ∧ x.1 < S.length) ∧ m.Pairwise (fun a b => a.1 < b.1)) ∨
  (res.1 = [] ∧ res.2.1 ≤ S.length ∧ (res.2.2 = 4 ∨ res.2.2 = 5))

theorem Inv.move {S : List UInt8} {st : St} (h : Inv S st) (k : Nat) (hk : st.2.1 + k ≤ S.length) : Inv S (st.1.drop k, st.2.1 + k, st.2.2) := by
  obtain ⟨h1, h2, h3, h4, h5⟩ := h
  exact ⟨hk, by show st.1.drop k = _; rw [h2, List.drop_drop], h3, fun x hx => ⟨(h4 x hx).1, by have := (h4 x hx).2; simp only; omega⟩, h5⟩

theorem dropWhile_drop (p : UInt8 → Bool) (l : List UInt8) : l.dropWhile p = l.drop (l.takeWhile p).length := by
  have := List.takeWhile_append_dropWhile (p := p) (l := l)
  conv => rhs; rw [← this]
  rw [List.drop_left']
  simp

theorem index_fits : ∀ (l : List UInt8), 0 ≤ Lib.index l [42, 47] → (Lib.index l [42, 47]).toNat + 2 ≤ l.length
  | [], h => by simp [Lib.index] at h
  | b :: l, h => by
    rw [Lib.index] at h ⊢
    by_cases hp : List.isPrefixOf [42, 47] (b :: l) = true
    · rw [if_pos hp]
      cases l with
      | nil => simp [List.isPrefixOf] at hp
      | cons d l => simp
    · rw [if_neg hp] at h ⊢
      have hg := Lib.index_ge l [42, 47]
      by_cases hi : Lib.index l [42, 47] = -1
      · rw [hi] at h; simp at h
      · have e : (Lib.index l [42, 47] == -1) = false := by rw [beq_eq_false_iff_ne]; exact hi
        rw [e]
        simp only [Bool.false_eq_true, if_false]
        have := index_fits l (by omega)
        simp only [List.length_cons]; omega

theorem step_inv {S : List UInt8} {st : St} (h : Inv S st) : (∀ res, stepL st = .inl res → Final S res) ∧ (∀ st', stepL st = .inr st' → Inv S st') := by
  obtain ⟨l, p, acc⟩ := st
  have h' := h
  obtain ⟨h1, h2, h3, h4, h5⟩ := h
  simp only at h1 h2 h3 h4 h5
  have hlen : l.length = S.length - p := by rw [h2, List.length_drop]
  cases l with
  | nil =>
    have hp : p = S.length := by simp at hlen; omega
    subst hp
    refine ⟨fun res e => ?_, fun st' e => by simp [stepL] at e⟩
    rw [stepL] at e
    injection e with e
    exact .inl ⟨acc, e.symm, h3, h4, h5⟩
  | cons c r =>
    have hlen' : (c :: r).length = S.length - p := hlen
    simp only [List.length_cons] at hlen
    by_cases c1 : isB c = true
    · rw [stepL, if_pos c1]
      refine ⟨fun res e => by simp at e, fun st' e => ?_⟩
      injection e with e
      subst e
      exact h'.move 1 (by simp only; omega)
    · rw [stepL, if_neg c1]
      by_cases c2 : c.toNat = 47 ∧ r.head? = some 47
      · rw [if_pos c2]
        refine ⟨fun res e => by simp at e, fun st' e => ?_⟩
        injection e with e
        subst e
        rw [dropWhile_drop]
        exact h'.move _ (by
          have := (List.takeWhile_sublist (l := c :: r) (fun b => b != 10)).length_le
          simp only; omega)
      · rw [if_neg c2]
        by_cases c3 : c.toNat = 47 ∧ r.head? = some 42
        · rw [if_pos c3]
          by_cases c4 : Lib.index (r.drop 1) [42, 47] < 0
          · rw [if_pos c4]
            refine ⟨fun res e => ?_, fun st' e => by simp at e⟩
            injection e with e
            subst e
            exact .inr ⟨rfl, h1, .inr rfl⟩
          · rw [if_neg c4]
            refine ⟨fun res e => by simp at e, fun st' e => ?_⟩
            injection e with e
            subst e
            have hf := index_fits (r.drop 1) (by omega)
            rw [List.length_drop] at hf
            have hm := h'.move ((Lib.index (r.drop 1) [42, 47]).toNat + 4) (by simp only; omega)
            have e1 : (r.drop 1).drop ((Lib.index (r.drop 1) [42, 47]).toNat + 2) = (c :: r).drop ((Lib.index (r.drop 1) [42, 47]).toNat + 4) := by
              rw [List.drop_drop, List.drop_succ_cons]
              congr 1
              omega
            rw [e1, Nat.add_assoc]
            exact hm
        · rw [if_neg c3]
          cases ht : tokL (c :: r) with
          | error q =>
            refine ⟨fun res e => ?_, fun st' e => by simp at e⟩
            simp only at e
            injection e with e
            subst e
            have := tok_bad ht
            exact .inr ⟨rfl, by simp only; omega, .inr rfl⟩
          | ok tn =>
            obtain ⟨t, n⟩ := tn
            obtain ⟨g1, g2, g3, g4⟩ := tok_good ht
            by_cases ha : acc.length = 16384
            · refine ⟨fun res e => ?_, fun st' e => by simp [ha] at e⟩
              simp only [if_pos ha] at e
              injection e with e
              subst e
              exact .inr ⟨rfl, h1, .inl rfl⟩
            · refine ⟨fun res e => by simp [ha] at e, fun st' e => ?_⟩
              simp only [if_neg ha] at e
              injection e with e
              subst e
              obtain ⟨m1, m2, m3, m4, m5⟩ := h'.move n (by simp only; omega)
              refine ⟨m1, m2, by simp; omega, ?_, ?_⟩
              · intro x hx
                rcases List.mem_append.1 hx with hx | hx
                · exact m4 x hx
                · rw [List.mem_singleton] at hx
                  subst hx
                  refine ⟨⟨g1, fun hk => ?_⟩, by simp only; omega⟩
                  obtain ⟨k1, k2⟩ := g4 hk
                  simp only
                  rw [← h2, ← k1]
                  exact ⟨by omega, k2⟩
              · rw [List.pairwise_append]
                refine ⟨h5, List.pairwise_singleton _ _, fun a ha' b hb => ?_⟩
                rw [List.mem_singleton] at hb
                subst hb
                exact (h4 a ha').2

theorem ends_final {S : List UInt8} {st : St} {res : Res} (h : Inv S st) (g : Ends st res) : Final S res := by
  obtain ⟨n, hn⟩ := g
  induction n generalizing st with
  | zero => cases hn
  | succ n ih =>
    obtain ⟨h1, h2⟩ := step_inv h
    rw [runN] at hn
    cases hs : stepL st with
    | inl r => rw [hs] at hn; injection hn with hn; subst hn; exact h1 _ hs
    | inr st' => rw [hs] at hn; exact ih (h2 _ hs) hn
theorem lexes_final {S : List UInt8} {res : Res} (g : Lexes S res) : Final S res :=
  ends_final ⟨by simp, rfl, by simp, by simp, List.Pairwise.nil⟩ g

/-- Tokens with a comment and a line's end behind each. -/
def sepL : List UInt8 := [32, 47, 42, 32, 59, 32, 42, 47, 10, 9]
def spacedL (ts : List Tk) : List UInt8 := ts.flatMap fun t => wform t ++ sepL
theorem sep_skip {rest : List UInt8} {p : Nat} {acc : List (Nat × Tk)} {r : Res} (h : Ends (rest, p + 10, acc) r) : Ends (sepL ++ rest, p, acc) r := by
  have e : sepL ++ rest = 32 :: 47 :: 42 :: 32 :: 59 :: 32 :: 42 :: 47 :: 10 :: 9 :: rest := rfl
  rw [e]
  refine Ends.go (step_blank _ _ _) ?_
  have hi : Lib.index (List.drop 1 (42 :: 32 :: 59 :: 32 :: 42 :: 47 :: 10 :: 9 :: rest)) [42, 47] = 3 := by simp [Lib.index, List.isPrefixOf]
  have hs : stepL (47 :: 42 :: 32 :: 59 :: 32 :: 42 :: 47 :: 10 :: 9 :: rest, p + 1, acc) = .inr (10 :: 9 :: rest, p + 8, acc) := by
    rw [stepL, if_neg (by decide), if_neg (fun h => absurd h.2 (by simp)), if_pos ⟨by decide, rfl⟩, hi, if_neg (by decide)]
    rfl
  refine Ends.go hs ?_
  have h1 : stepL (10 :: 9 :: rest, p + 8, acc) = .inr (9 :: rest, p + 9, acc) := by rw [stepL, if_pos (by decide)]
  have h2 : stepL (9 :: rest, p + 9, acc) = .inr (rest, p + 10, acc) := by rw [stepL, if_pos (by decide)]
  exact Ends.go h1 (Ends.go h2 h)

theorem lex_spaced (tail : List UInt8) (htail : ∀ p acc, ∃ q, Ends (tail, p, acc) (acc ++ [(q, 0, [], 0)], 0, 0)) : ∀ (ts : List Tk) (p : Nat) (acc : List (Nat × Tk)), (∀ t ∈ ts, okB t = true) → acc.length + ts.length ≤ 16384 →
    ∃ m q, Ends (spacedL ts ++ tail, p, acc) (acc ++ m ++ [(q, 0, [], 0)], 0, 0) ∧ m.map (·.2) = ts.map clean
  | [], p, acc, _, _ => by
    obtain ⟨q, h⟩ := htail p acc
    exact ⟨[], q, by simpa [spacedL] using h, rfl⟩
  | t :: ts, p, acc, ht, hl => by
    simp only [List.length_cons] at hl
    obtain ⟨m, q, h1, h2⟩ := lex_spaced tail htail ts (p + (wform t).length + 10) (acc ++ [(p, clean t)]) (fun x hx => ht x (List.mem_cons_of_mem _ hx)) (by simp; omega)
    refine ⟨(p, clean t) :: m, q, ?_, by simp [h2]⟩
    have e : spacedL (t :: ts) ++ tail = wform t ++ (sepL ++ (spacedL ts ++ tail)) := by simp [spacedL]
    rw [e]
    refine Ends.go (step_form (ht t (by simp)) (.inr ⟨_, rfl⟩) p acc (by omega)) (sep_skip ?_)
    simpa using h1

def headL : List UInt8 := [47, 47, 120, 10]
def tailL : List UInt8 := [47, 42, 42, 47]
theorem tail_ends (p : Nat) (acc : List (Nat × Tk)) : ∃ q, Ends (tailL, p, acc) (acc ++ [(q, 0, [], 0)], 0, 0) := by
  have hs : stepL (tailL, p, acc) = .inr ([], p + 4, acc) := rfl
  exact ⟨p + 4, Ends.go hs (Ends.stop rfl)⟩
theorem lex_all {ts : List Tk} (ht : ∀ t ∈ ts, okB t = true) (hl : ts.length ≤ 16384) :
    ∃ m q, Lexes (headL ++ (spacedL ts ++ tailL)) (m ++ [(q, 0, [], 0)], 0, 0) ∧ m.map (·.2) = ts.map clean := by
  obtain ⟨m, q, h1, h2⟩ := lex_spaced tailL tail_ends ts 4 [] ht (by simpa using hl)
  refine ⟨m, q, ?_, h2⟩
  have e : headL ++ (spacedL ts ++ tailL) = 47 :: 47 :: 120 :: 10 :: (spacedL ts ++ tailL) := rfl
  unfold Lexes
  rw [e]
  have hs : stepL (47 :: 47 :: 120 :: 10 :: (spacedL ts ++ tailL), 0, []) = .inr (10 :: (spacedL ts ++ tailL), 3, []) := by
    rw [stepL, if_neg (by decide), if_pos ⟨by decide, rfl⟩]
    rfl
  have h3 : stepL (10 :: (spacedL ts ++ tailL), 3, []) = .inr (spacedL ts ++ tailL, 4, []) := by rw [stepL, if_pos (by decide)]
  refine Ends.go hs (Ends.go h3 ?_)
  simpa using h1
end Lx
end Go.Proofs.YtajmdpndbfmdmaaDoor
