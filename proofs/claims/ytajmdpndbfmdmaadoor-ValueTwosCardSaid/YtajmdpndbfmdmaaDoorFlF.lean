/-
  Comparisons of floats as Bool functions, and the test for the program's numbers put together. Conditions: each lemma's own hypotheses.
-/
import Derived.Test.YtajmdpndbfmdmaaDoorFlE
namespace Fl
open Ieee

theorem dec_eq (a b : Int) : (some (compare a b) == some Ordering.eq) = decide (a = b) := by
  rw [Bool.eq_iff_iff, beq_iff_eq, decide_eq_true_iff, Option.some.injEq, compare_eqq]
theorem dec_ne (a b : Int) : (some (compare a b) != some Ordering.eq) = !decide (a = b) := by
  rw [bne, dec_eq]
theorem dec_lt (a b : Int) : (some (compare a b) == some Ordering.lt) = decide (a < b) := by
  rw [Bool.eq_iff_iff, beq_iff_eq, decide_eq_true_iff, Option.some.injEq, compare_lt]
theorem dec_gt (a b : Int) : (some (compare a b) == some Ordering.gt) = decide (b < a) := by
  rw [Bool.eq_iff_iff, beq_iff_eq, decide_eq_true_iff, Option.some.injEq, compare_gt]

/-- How two floats stand to each other, by their places. -/
def feq (x y : Nat) : Bool := !isN x && !isN y && decide (key x = key y)
def flt (x y : Nat) : Bool := !isN x && !isN y && decide (key x < key y)
def fle (x y : Nat) : Bool := !isN x && !isN y && decide (key x ≤ key y)

section
variable {x y : Nat} (hx : x < 18446744073709551616) (hy : y < 18446744073709551616)
include hx hy
theorem ord_eql : (Go.FloatKind.f64.format.order x y == some .eq) = feq x y := by
  show (D.order x y == some .eq) = _
  rw [order_key hx hy]; unfold feq
  cases isN x <;> cases isN y
  · simp only [Bool.or_self, Bool.false_eq_true, if_false, Bool.not_false, Bool.true_and]; exact dec_eq _ _
  all_goals rfl
theorem ord_neq : (Go.FloatKind.f64.format.order x y != some .eq) = !feq x y := by
  rw [bne, ord_eql hx hy]
theorem ord_lss : (Go.FloatKind.f64.format.order x y == some .lt) = flt x y := by
  show (D.order x y == some .lt) = _
  rw [order_key hx hy]; unfold flt
  cases isN x <;> cases isN y
  · simp only [Bool.or_self, Bool.false_eq_true, if_false, Bool.not_false, Bool.true_and]; exact dec_lt _ _
  all_goals rfl
theorem ord_gtr : (Go.FloatKind.f64.format.order x y == some .gt) = flt y x := by
  show (D.order x y == some .gt) = _
  rw [order_key hx hy]; unfold flt
  cases isN x <;> cases isN y
  · simp only [Bool.or_self, Bool.false_eq_true, if_false, Bool.not_false, Bool.true_and]; exact dec_gt _ _
  all_goals rfl
theorem ord_leq : (Go.FloatKind.f64.format.order x y == some .lt || Go.FloatKind.f64.format.order x y == some .eq) = fle x y := by
  rw [ord_lss hx hy, ord_eql hx hy]; unfold flt feq fle
  cases isN x <;> cases isN y <;> simp
  rw [Bool.eq_iff_iff]; simp; omega
theorem ord_geq : (Go.FloatKind.f64.format.order x y == some .gt || Go.FloatKind.f64.format.order x y == some .eq) = fle y x := by
  rw [ord_gtr hx hy, ord_eql hx hy]; unfold flt feq fle
  cases isN x <;> cases isN y <;> simp
  rw [Bool.eq_iff_iff]; simp; omega
end

theorem feq_self (x : Nat) : feq x x = !isN x := by unfold feq; cases isN x <;> simp
theorem feq_comm (x y : Nat) : feq x y = feq y x := by
  unfold feq; rw [Bool.and_comm (!isN x)]; congr 1; rw [decide_eq_decide]; omega
theorem feq_W {a b : Int} (ha : a.natAbs < 9007199254740992) (hb : b.natAbs < 9007199254740992) : feq (W a) (W b) = decide (a = b) := by
  unfold feq; rw [isN_W ha, isN_W hb]; simp only [Bool.not_false, Bool.true_and]; rw [decide_eq_decide]; exact key_W_eq ha hb
theorem flt_W {a b : Int} (ha : a.natAbs < 9007199254740992) (hb : b.natAbs < 9007199254740992) : flt (W a) (W b) = decide (a < b) := by
  unfold flt; rw [isN_W ha, isN_W hb]; simp only [Bool.not_false, Bool.true_and]; rw [decide_eq_decide]; exact key_W_lt ha hb
theorem fle_W {a b : Int} (ha : a.natAbs < 9007199254740992) (hb : b.natAbs < 9007199254740992) : fle (W a) (W b) = decide (a ≤ b) := by
  unfold fle; rw [isN_W ha, isN_W hb]; simp only [Bool.not_false, Bool.true_and]; rw [decide_eq_decide]
  have := key_W_lt hb ha
  omega

/-- A float that is no NaN, cut. -/
def tr (x : Nat) : Nat := Ieee.double.write ((Ieee.double.read x).integral .zero)

theorem isN_mod {x : Nat} : isN (x % 9223372036854775808) = isN x := by unfold isN; rw [Nat.mod_mod]
theorem key_mod {x : Nat} : key (x % 9223372036854775808) = ((x % 9223372036854775808 : Nat) : Int) := by
  unfold key; rw [if_pos (Nat.mod_lt _ (by decide))]
theorem isN_safe : isN 4845873199050653695 = false := by decide
theorem key_safe' : key 4845873199050653695 = 4845873199050653695 := by decide
theorem isN_zero : isN 0 = false := by decide
theorem key_zero' : key 0 = 0 := by decide

theorem key_abs {x : Nat} (hx : x < 18446744073709551616) : ((x % 9223372036854775808 : Nat) : Int) ≤ 4845873199050653695 ↔ -4845873199050653695 ≤ key x ∧ key x ≤ 4845873199050653695 := by
  unfold key; split <;> omega

theorem num?_out {x : Nat} (h : ¬ (-4845873199050653695 ≤ key x ∧ key x ≤ 4845873199050653695)) : num? x = none := by
  cases hn : num? x with
  | none => rfl
  | some n =>
    obtain ⟨h1, rfl⟩ := num?_some.1 hn
    exact absurd (key_W_bounds h1) h

/-- num.May, put together. -/
theorem may_parts {x : Nat} (hx : x < 18446744073709551616) :
    may x = (isN x || (feq (tr x) x && (fle (x % 9223372036854775808) 4845873199050653695 && (!feq x 0 || !decide (9223372036854775808 ≤ x))))) := by
  cases hN : isN x with
  | true => simp [may, hN]
  | false =>
    have e1 : may x = (num? x).isSome := by simp [may, hN]
    rw [e1, Bool.false_or]
    have e2 : fle (x % 9223372036854775808) 4845873199050653695 = decide (((x % 9223372036854775808 : Nat) : Int) ≤ 4845873199050653695) := by
      unfold fle; rw [isN_mod, hN, isN_safe, key_mod, key_safe']; rfl
    have e3 : feq x 0 = decide (key x = 0) := by unfold feq; rw [hN, isN_zero, key_zero']; rfl
    rw [e2, e3]
    by_cases hb : -4845873199050653695 ≤ key x ∧ key x ≤ 4845873199050653695
    · rw [decide_eq_true ((key_abs hx).2 hb)]
      obtain ⟨n, hn, ht, htl, htn, htk, hq⟩ := num?_iff hx hb.1 hb.2
      have e4 : feq (tr x) x = decide (key (W n) = key x) := by
        unfold feq tr; rw [htn, hN, htk]; rfl
      rw [e4, hq]
      have hz := key_zero hx
      by_cases hk : key (W n) = key x
      · by_cases h3 : x = 9223372036854775808
        · rw [if_neg (by simp [h3])]
          subst h3; rw [show decide (key 9223372036854775808 = 0) = true from by decide]; simp
        · rw [if_pos ⟨hk, h3⟩, decide_eq_true hk]
          by_cases h0 : key x = 0
          · rcases hz.1 h0 with h | h
            · rw [h]; simp
            · exact absurd h h3
          · simp [h0]
      · rw [if_neg (fun h => hk h.1), decide_eq_false hk]; rfl
    · rw [num?_out hb, decide_eq_false (fun h => hb ((key_abs hx).1 h))]
      simp
end Fl
