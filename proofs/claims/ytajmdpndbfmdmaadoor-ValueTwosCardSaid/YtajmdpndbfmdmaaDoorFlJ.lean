/-
  The place of a float in a string, as the document reckons it. Conditions: each lemma's own hypotheses.
-/
import Derived.Test.YtajmdpndbfmdmaaDoorFlI
namespace Fl
open Ieee Go

theorem neg_nat {n : Nat} (h0 : n ≠ 0) (hn : n < 9007199254740992) : Go.Op.negFloat .f64 (W n) = W (-(n : Int)) := neg_W (by omega) (by omega)

theorem key_neg_nat {n : Nat} (h0 : n ≠ 0) (hn : n < 9007199254740992) : key (W (-(n : Int))) = - key (W n) ∧ isN (W (-(n : Int))) = false ∧ W (-(n : Int)) < 18446744073709551616 := by
  obtain ⟨r, e, h1, h2, _⟩ := rung_W hn
  have hh : W (-(n : Int)) = D.word true r := by
    rw [← neg_nat h0 hn, e]
    exact neg_word false (by omega)
  rw [hh, h2, key_word _ (by omega)]
  exact ⟨rfl, isN_word _ (by omega), word_lt2 _ (by omega)⟩

theorem tn_ge {x : Nat} (hx : x < 18446744073709551616) (hN : isN x = false) {n : Nat} (hn : n < 9007199254740992) : n ≤ tn x ↔ key (W n) ≤ ((x % 9223372036854775808 : Nat) : Int) := by
  by_cases h : x % 9223372036854775808 ≤ 4845873199050653695
  · exact (tn_small hx h).2.2.2.2 n hn
  · obtain ⟨e, _⟩ := tn_big hx h hN
    have := (key_W_bounds (n := (n : Int)) (by omega)).2
    rw [e]; omega

theorem fle_neg {x : Nat} (hx : x < 18446744073709551616) (hN : isN x = false) (hk : key x < 0) {n : Nat} (h0 : n ≠ 0) (hn : n < 9007199254740992) : fle x (W (-(n : Int))) = decide (n ≤ tn x) := by
  obtain ⟨k1, k2, k3⟩ := key_neg_nat h0 hn
  unfold fle
  rw [hN, k2, k1]
  simp only [Bool.not_false, Bool.true_and]
  rw [decide_eq_decide, tn_ge hx hN hn]
  unfold key at hk ⊢
  split at hk <;> omega

theorem fle_pos {x : Nat} (hx : x < 18446744073709551616) (hN : isN x = false) (hk : ¬ key x < 0) {n : Nat} (hn : n < 9007199254740992) : fle (W n) x = decide (n ≤ tn x) := by
  obtain ⟨h1, h2⟩ := W_nat_lt hn
  unfold fle
  rw [hN, h2]
  simp only [Bool.not_false, Bool.true_and]
  rw [decide_eq_decide, tn_ge hx hN hn]
  have : key x = ((x % 9223372036854775808 : Nat) : Int) := by unfold key at hk ⊢; split at hk <;> omega
  rw [this]

theorem tn_conv {x : Nat} (hx : x < 18446744073709551616) (hN : isN x = false) (h : tn x < 9007199254740992) :
    Go.floatToIntVal .f64 x .i64 = some (if key x < 0 then -((tn x : Nat) : Int) else ((tn x : Nat) : Int)) := by
  by_cases hs : x % 9223372036854775808 ≤ 4845873199050653695
  · obtain ⟨ht, _, e, _, _⟩ := tn_small hx hs
    have hv : sg (decide (9223372036854775808 ≤ x)) (tn x) = if key x < 0 then -((tn x : Nat) : Int) else ((tn x : Nat) : Int) := by
      by_cases hb : 9223372036854775808 ≤ x
      · rw [decide_eq_true hb]
        by_cases hk : key x < 0
        · rw [if_pos hk]; rfl
        · rw [if_neg hk]
          have hx0 : x = 9223372036854775808 := by unfold key at hk; split at hk <;> omega
          subst hx0
          have : tn 9223372036854775808 = 0 := by decide +kernel
          rw [this]; rfl
      · rw [decide_eq_false hb, if_neg (by unfold key; split <;> omega)]; rfl
    rw [← hv]
    have h2 : (Go.FloatKind.f64.decode x).toInt .zero = some (sg (decide (9223372036854775808 ≤ x)) (tn x)) := e
    have hb : -9007199254740992 < sg (decide (9223372036854775808 ≤ x)) (tn x) ∧ sg (decide (9223372036854775808 ≤ x)) (tn x) < 9007199254740992 := by unfold sg; split <;> omega
    generalize sg (decide (9223372036854775808 ≤ x)) (tn x) = n at h2 hb
    unfold Go.floatToIntVal
    rw [h2]
    have h3 : Go.IntKind.i64.min ≤ n := by show (-9223372036854775808 : Int) ≤ n; omega
    have h4 : n ≤ Go.IntKind.i64.max := by show n ≤ (9223372036854775807 : Int); omega
    simp only [h3, h4, and_self, if_true]
  · obtain ⟨e, _⟩ := tn_big hx hs hN
    omega
end Fl
