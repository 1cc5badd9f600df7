/-
  Exponent and fraction fields of whole numbers, one round of the remainder, and what the operations come to. Conditions: each lemma's own hypotheses.
-/
import Derived.Test.YtajmdpndbfmdmaaDoorFlD
namespace Fl
open Ieee

/-- The fraction field and the exponent field of a whole number's float. -/
theorem W_fields {n : Nat} (h0 : n ≠ 0) (hn : n < 9007199254740992) :
    ∃ f : Nat, W (n : Int) = (n.log2 + 1023) * 4503599627370496 + f ∧ f < 4503599627370496 ∧ 4503599627370496 + f = n * 2 ^ (52 - n.log2) ∧ n.log2 ≤ 52 := by
  have hl := log_lt h0 hn
  obtain ⟨e, lo, hi⟩ := nearest_small false h0 hn
  refine ⟨n * 2 ^ (52 - n.log2) - 4503599627370496, ?_, by omega, by omega, hl⟩
  rw [W_eq, Int.natAbs_natCast, show decide ((n : Int) < 0) = false from decide_eq_false (by omega), e]
  unfold Format.word
  simp only [Bool.false_eq_true, if_false]
  omega

theorem log2_mono {a b : Nat} (h : a ≤ b) (h0 : a ≠ 0) : a.log2 ≤ b.log2 := (Nat.le_log2 (by omega)).2 (Nat.le_trans (Nat.log2_self_le h0) h)

/-- Which power of two of y is taken off r: in one round of the remainder. -/
def takes (r y : Nat) : Nat := if W r % 4503599627370496 < W y % 4503599627370496 then r.log2 - y.log2 - 1 else r.log2 - y.log2

theorem takes_spec {r y : Nat} (hy : y ≠ 0) (hr : r < 9007199254740992) (h : y ≤ r) :
    y.log2 ≤ r.log2 ∧ (W r % 4503599627370496 < W y % 4503599627370496 → y.log2 + 1 ≤ r.log2) ∧ y * 2 ^ takes r y ≤ r := by
  obtain ⟨fr, er, hfr, kr, lr⟩ := W_fields (n := r) (by omega) hr
  obtain ⟨fy, ey, hfy, ky, ly⟩ := W_fields hy (by omega)
  have hm := log2_mono h hy
  have er' : W (r : Int) % 4503599627370496 = fr := by rw [er]; omega
  have ey' : W (y : Int) % 4503599627370496 = fy := by rw [ey]; omega
  refine ⟨hm, ?_, ?_⟩
  · rw [er', ey']
    intro hlt
    apply Nat.lt_of_le_of_ne hm
    intro heq
    have : y * 2 ^ (52 - y.log2) ≤ r * 2 ^ (52 - y.log2) := Nat.mul_le_mul_right _ h
    rw [← ky, heq, ← kr] at this
    omega
  · unfold takes
    rw [er', ey']
    split
    · have h1 := Nat.lt_log2_self (n := y)
      have h2 := Nat.log2_self_le (n := r) (by omega)
      rename_i hlt
      by_cases heq : y.log2 = r.log2
      · have : y * 2 ^ (52 - y.log2) ≤ r * 2 ^ (52 - y.log2) := Nat.mul_le_mul_right _ h
        rw [← ky, heq, ← kr] at this
        omega
      · have h3 : y * 2 ^ (r.log2 - y.log2 - 1) ≤ 2 ^ (y.log2 + 1) * 2 ^ (r.log2 - y.log2 - 1) := Nat.mul_le_mul_right _ (by omega)
        rw [← Nat.pow_add, show y.log2 + 1 + (r.log2 - y.log2 - 1) = r.log2 from by omega] at h3
        omega
    · have h3 : y * 2 ^ (52 - y.log2) ≤ r * 2 ^ (52 - r.log2) := by omega
      rw [show 52 - y.log2 = (r.log2 - y.log2) + (52 - r.log2) from by omega, Nat.pow_add, ← Nat.mul_assoc] at h3
      exact Nat.le_of_mul_le_mul_right h3 (Nat.two_pow_pos _)

theorem log2_mul_pow {y : Nat} (hy : y ≠ 0) (k : Nat) : (y * 2 ^ k).log2 = y.log2 + k := by
  induction k with
  | zero => simp
  | succ k ih =>
    rw [Nat.pow_succ, ← Nat.mul_assoc, Nat.mul_comm, log2_double (Nat.mul_ne_zero hy (by have := Nat.two_pow_pos k; omega)), ih]; omega

theorem W_ldexp {y k : Nat} (hy : y ≠ 0) (h : y * 2 ^ k < 9007199254740992) : W ((y * 2 ^ k : Nat) : Int) = W (y : Int) + k * 4503599627370496 := by
  have hp := Nat.two_pow_pos k
  have hle : y * 1 ≤ y * 2 ^ k := Nat.mul_le_mul_left _ hp
  obtain ⟨fy, ey, hfy, ky, ly⟩ := W_fields hy (by omega)
  obtain ⟨f2, e2, hf2, k2, l2⟩ := W_fields (n := y * 2 ^ k) (Nat.mul_ne_zero hy (by omega)) h
  rw [log2_mul_pow hy] at e2 k2 l2
  have : y * 2 ^ k * 2 ^ (52 - (y.log2 + k)) = y * 2 ^ (52 - y.log2) := by
    rw [Nat.mul_assoc, ← Nat.pow_add, show k + (52 - (y.log2 + k)) = 52 - y.log2 from by omega]
  rw [this, ← ky] at k2
  have hf : f2 = fy := by clear e2 ey; omega
  rw [e2, ey, hf]
  clear e2 ey k2 this l2
  rw [Nat.add_right_comm y.log2 k, Nat.add_mul (y.log2 + 1023) k]
  exact Nat.add_right_comm _ _ _

/-- 'x &^ m' and 'x | m' of the fields. -/
theorem exp_and (e f : Nat) (hf : f < 4503599627370496) : (e * 4503599627370496 + f) >>> 52 = e := by
  rw [Nat.shiftRight_eq_div_pow, show (2 : Nat) ^ 52 = 4503599627370496 from by decide]; omega

theorem or_fields (e f : Nat) (hf : f < 4503599627370496) : f ||| (e * 4503599627370496) = e * 4503599627370496 + f := by
  have h := Nat.two_pow_add_eq_or_of_lt (i := 52) (b := f) (by rw [show (2 : Nat) ^ 52 = 4503599627370496 from by decide]; exact hf) e
  rw [show (2 : Nat) ^ 52 = 4503599627370496 from by decide] at h
  rw [Nat.or_comm, Nat.mul_comm e, ← h]

/-- Remainders: by size, the sign the dividend's. -/
theorem tmod_natAbs (a b : Int) : (a.tmod b).natAbs = a.natAbs % b.natAbs := Int.natAbs_tmod a b

/- ## What the operations come to -/
def Fits (r : Nat) : Option Int → Prop
  | none => isN r = true ∧ r < 18446744073709551616
  | some n => r = W n ∧ n.natAbs < 9007199254740992

theorem Fits_lt {r : Nat} {v : Option Int} (h : Fits r v) : r < 18446744073709551616 := by
  cases v with
  | none => exact h.2
  | some n => rw [h.1]; exact W_lt h.2

def lim (n : Int) : Option Int × Int := if n.natAbs < 9007199254740992 then (some n, 0) else (some 0, 10)
def addS (a b : Int) : Option Int × Int := lim (a + b)
def subS (a b : Int) : Option Int × Int := lim (a - b)
def mulS (a b : Int) : Option Int × Int := if a * b = 0 ∧ (a < 0 ∨ b < 0) then (some 0, 10) else lim (a * b)
def divS (a b : Int) : Option Int × Int :=
  if b = 0 then (if a = 0 then (none, 0) else (some 0, 10))
  else if a.tmod b ≠ 0 then (some 0, 10)
  else if a = 0 ∧ b < 0 then (some 0, 10) else (some (a.tdiv b), 0)
def remS (a b : Int) : Option Int × Int :=
  if b = 0 then (none, 0) else if a < 0 ∧ a.tmod b = 0 then (some 0, 10) else (some (a.tmod b), 0)
def negS (a : Int) : Option Int × Int := if a = 0 then (some 0, 10) else (some (-a), 0)

/-- Of two floats: what an operation of whole numbers makes of them. -/
def two (f : Int → Int → Option Int × Int) (x y : Nat) : Option Int × Int :=
  if may x = true ∧ may y = true then (match num? x, num? y with | some a, some b => f a b | _, _ => (none, 0)) else (some 0, 2)
def one (f : Int → Option Int × Int) (x : Nat) : Option Int × Int :=
  if may x = true then (match num? x with | some a => f a | none => (none, 0)) else (some 0, 2)

/-- One of the three makes of a float. -/
inductive Make (b : Nat) : Prop where
  | nan (h : isN b = true) (h2 : num? b = none) (h3 : may b = true)
  | int (n : Int) (h : n.natAbs < 9007199254740992) (e : b = W n) (h2 : num? b = some n) (h3 : may b = true) (h4 : isN b = false)
  | bad (h : isN b = false) (h2 : num? b = none) (h3 : may b = false)

theorem isN_num? {b : Nat} (h : isN b = true) : num? b = none := by
  cases hn : num? b with
  | none => rfl
  | some n =>
    obtain ⟨h1, rfl⟩ := num?_some.1 hn
    rw [isN_W h1] at h; cases h

theorem make_of (b : Nat) : Make b := by
  cases h : isN b with
  | true => exact .nan h (isN_num? h) (by simp [may, h])
  | false =>
    cases hn : num? b with
    | none => exact .bad h hn (by simp [may, h, hn])
    | some n => exact .int n (num?_some.1 hn).1 (num?_some.1 hn).2 hn (by simp [may, hn]) h
end Fl
