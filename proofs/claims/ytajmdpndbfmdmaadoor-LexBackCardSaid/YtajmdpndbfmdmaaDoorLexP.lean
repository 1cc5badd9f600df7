/-
  What LexBack says of tokens, in plain Lean.
-/
import Derived.Test.YtajmdpndbfmdmaaDoorLexO
namespace Go.Proofs.YtajmdpndbfmdmaaDoor
open Go Go.RowKit

theorem okB_num_lt {t : Lx.Tk} (h : Lx.okB t = true) : t.2.2 < 18446744073709551616 := by
  have hz : ∀ {x : Nat}, Lx.zero x = true → x < 18446744073709551616 := by
    intro x hx
    unfold Lx.zero at hx
    simp only [Bool.or_eq_true, decide_eq_true_eq] at hx
    omega
  by_cases h3 : t.1 = 3
  · obtain ⟨_, n, _, e⟩ := Lx.okB_num h h3
    rw [e]; exact W_lt_any _
  · unfold Lx.okB at h
    rw [if_neg h3] at h
    split at h
    · simp only [Bool.and_eq_true] at h; exact hz h.1
    · split at h
      · simp only [Bool.and_eq_true] at h; exact hz h.1
      · split at h
        · simp only [Bool.and_eq_true] at h; exact hz h.1.1.1.1.1
        · cases h
theorem okB_len {t : Lx.Tk} (h : Lx.okB t = true) : t.2.1.length ≤ 4096 := by
  by_cases h3 : t.1 = 3
  · rw [(Lx.okB_num h h3).1]; simp
  · unfold Lx.okB at h
    rw [if_neg h3] at h
    split at h
    · simp only [Bool.and_eq_true, decide_eq_true_eq] at h; exact h.2
    · split at h
      · simp only [Bool.and_eq_true] at h
        have := Lx.sgn_mem h.2
        exact (show ∀ s ∈ Lx.signList, s.length ≤ 4096 by decide) _ this
      · split at h
        · simp only [Bool.and_eq_true, decide_eq_true_eq] at h; exact h.1.1.1.2
        · cases h
theorem okB_kind {t : Lx.Tk} (h : Lx.okB t = true) : t.1 = 1 ∨ t.1 = 2 ∨ t.1 = 3 ∨ t.1 = 4 ∨ t.1 = 5 := by
  unfold Lx.okB at h
  split at h
  · omega
  · split at h
    · omega
    · split at h
      · omega
      · split at h
        · omega
        · cases h

/-- What is known of the i-th of the tokens that a text gives, n tokens ahead of the end. -/
structure TokI (S : List UInt8) (n i : Nat) (t : Nat × Lx.Tk) : Prop where
  place : t.1 ≤ S.length
  last : i = n → t.2.1 = 0
  other : i < n → t.2.1 = 1 ∨ t.2.1 = 2 ∨ t.2.1 = 3 ∨ t.2.1 = 4 ∨ t.2.1 = 5
  plain : t.2.1 = 1 ∨ t.2.1 = 2 ∨ t.2.1 = 5 → t.1 + t.2.2.1.length ≤ S.length ∧ (S.drop t.1).take t.2.2.1.length = t.2.2.1

theorem tok_known {S : List UInt8} {m : List (Nat × Lx.Tk)} (h1 : ∀ x ∈ m, Lx.OkAt S x ∧ x.1 < S.length) (h2 : m.Pairwise (fun a b => a.1 < b.1)) :
    (∀ i t, (m ++ [(S.length, ((0, [], 0) : Lx.Tk))])[i]? = some t → TokI S m.length i t) ∧
    (∀ i t u, (m ++ [(S.length, ((0, [], 0) : Lx.Tk))])[i]? = some t → (m ++ [(S.length, ((0, [], 0) : Lx.Tk))])[i + 1]? = some u → t.1 < u.1) := by
  constructor
  · intro i t hi
    rcases Nat.lt_or_ge i m.length with h | h
    · rw [List.getElem?_append_left h] at hi
      obtain ⟨⟨a, b⟩, c⟩ := h1 t (List.mem_of_getElem? hi)
      exact ⟨by omega, fun e => by omega, fun _ => okB_kind a, b⟩
    · rw [List.getElem?_append_right h] at hi
      have h0 : i - m.length = 0 := by
        rcases Nat.eq_zero_or_pos (i - m.length) with h' | h'
        · exact h'
        · rw [List.getElem?_eq_none (by simp; omega)] at hi; cases hi
      rw [h0] at hi
      obtain rfl := Option.some.inj hi
      exact ⟨Nat.le_refl _, fun _ => rfl, fun h' => by omega, fun h' => by simp at h'⟩
  · intro i t u ht hu
    have hp : (m ++ [(S.length, ((0, [], 0) : Lx.Tk))]).Pairwise (fun a b => a.1 < b.1) := by
      rw [List.pairwise_append]
      refine ⟨h2, List.pairwise_singleton _ _, fun a ha b hb => ?_⟩
      obtain rfl := List.mem_singleton.1 hb
      exact (h1 a ha).2
    obtain ⟨e1, e2⟩ := List.getElem?_eq_some_iff.1 ht
    obtain ⟨e3, e4⟩ := List.getElem?_eq_some_iff.1 hu
    have := List.pairwise_iff_getElem.1 hp i (i + 1) e1 e3 (Nat.lt_succ_self i)
    rw [e2, e4] at this
    exact this

/-- The tokens of a text, written: the error is none or 'too big'. -/
theorem textL_own {m : List (Nat × Lx.Tk)} {q : Nat} (hok : ∀ x ∈ m, Lx.okB x.2 = true) (hl : m.length ≤ 16384) :
    (Lx.textL (((m ++ [(q, ((0, [], 0) : Lx.Tk))]).map fun (t : Nat × Lx.Tk) => ((t.1 : Int), t.2)).map (·.2)) = ([], 3)) ∨
    (Lx.textL (((m ++ [(q, ((0, [], 0) : Lx.Tk))]).map fun (t : Nat × Lx.Tk) => ((t.1 : Int), t.2)).map (·.2)) = (Lx.joinL (m.map (·.2)), 0) ∧ (Lx.joinL (m.map (·.2))).length ≤ 65536) := by
  have e : ((m ++ [(q, ((0, [], 0) : Lx.Tk))]).map fun (t : Nat × Lx.Tk) => ((t.1 : Int), t.2)).map (·.2) = m.map (·.2) ++ [(0, [], 0)] := by simp
  rw [e, textL_snoc, List.length_map, if_neg (by omega), if_neg (by decide)]
  rw [if_neg (by
    have : (m.map (·.2)).all Lx.okB = true := by rw [List.all_eq_true]; intro x hx; obtain ⟨y, hy, rfl⟩ := List.mem_map.1 hx; exact hok y hy
    rw [this]; decide)]
  by_cases h : 65536 < (Lx.joinL (m.map (·.2))).length
  · rw [if_pos h]; exact .inl rfl
  · rw [if_neg h]; exact .inr ⟨rfl, by omega⟩
end Go.Proofs.YtajmdpndbfmdmaaDoor
