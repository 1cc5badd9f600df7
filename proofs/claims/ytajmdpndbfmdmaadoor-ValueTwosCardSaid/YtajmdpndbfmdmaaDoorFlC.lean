/-
  Quotients, conversions and signs of floats that are whole numbers below 2^53. Conditions: each lemma's own hypotheses.
-/
import Derived.Test.YtajmdpndbfmdmaaDoorFlB
namespace Fl
open Ieee

theorem place_ge {m k : Nat} {p : Int} (hm : m ≠ 0) (hk : k = m * 2 ^ (-p).toNat) (kl : k.log2 = 52) : -52 ≤ p := by
  apply Int.not_lt.1
  intro h
  have k0 : k ≠ 0 := fun h => by rw [h] at kl; exact absurd kl (by decide)
  have h7 : 1 * 2 ^ (-p).toNat ≤ m * 2 ^ (-p).toNat := Nat.mul_le_mul_right _ (by omega)
  rw [← hk, Nat.one_mul] at h7
  have := (Nat.le_log2 k0).2 h7
  omega

theorem sign_mul {q b : Int} (hq0 : q ≠ 0) (hb0 : b ≠ 0) : (decide (q * b < 0) ^^ decide (b < 0)) = decide (q < 0) := by
  rcases Int.lt_or_gt_of_ne hq0 with h | h <;> rcases Int.lt_or_gt_of_ne hb0 with h' | h'
  · have := Int.mul_pos_of_neg_of_neg h h'
    simp [h, h', show ¬ q * b < 0 from by omega]
  · have := Int.mul_neg_of_neg_of_pos h h'
    simp [h, show ¬ b < 0 from by omega, this]
  · have := Int.mul_neg_of_pos_of_neg h h'
    simp [h', show ¬ q < 0 from by omega, this]
  · have := Int.mul_pos h h'
    simp [show ¬ q < 0 from by omega, show ¬ b < 0 from by omega, show ¬ q * b < 0 from by omega]

theorem quot_mag (x y i j M : Nat) (hij : j ≤ i + M) (hy : y ≠ 0) :
    (x * y * 2 ^ i) <<< M / (y * 2 ^ j) = x * 2 ^ (i + M - j) ∧ (x * y * 2 ^ i) <<< M % (y * 2 ^ j) = 0 := by
  have e : (x * y * 2 ^ i) <<< M = (x * 2 ^ (i + M - j)) * (y * 2 ^ j) := by
    rw [Nat.shiftLeft_eq]
    have : 2 ^ i * 2 ^ M = 2 ^ (i + M - j) * 2 ^ j := by rw [← Nat.pow_add, ← Nat.pow_add]; congr 1; omega
    rw [Nat.mul_assoc, this]; ac_rfl
  have hp : 0 < y * 2 ^ j := Nat.mul_pos (by omega) (Nat.two_pow_pos _)
  rw [e]
  exact ⟨Nat.mul_div_cancel _ hp, Nat.mul_mod_left _ _⟩

/-- A quotient that is a whole number. -/
theorem div_W {q b : Int} (hb0 : b ≠ 0) (hq0 : q ≠ 0) (ha : (q * b).natAbs < 9007199254740992) (hb : b.natAbs < 9007199254740992) :
    D.div (W (q * b)) (W b) = some (W q) := by
  have ha0 : q * b ≠ 0 := fun h => by rcases Int.mul_eq_zero.1 h with h | h <;> contradiction
  obtain ⟨k, p, e1, h0, h1, hk, hkl⟩ := read_W ha
  obtain ⟨l, r, e2, h2, h3, hl, hll⟩ := read_W hb
  have kl := hkl ha0
  have ll := hll hb0
  have l0 : l ≠ 0 := fun h => by rw [h] at ll; exact absurd ll (by decide)
  have hp : -52 ≤ p := place_ge (by omega) hk kl
  have hr : -52 ≤ r := place_ge (by omega) hl ll
  unfold Format.div
  rw [e1, e2]
  simp only [Datum.quotient, D_fb, kl, ll, if_neg l0, Option.map_some]
  obtain ⟨M, hM⟩ : ∃ M : Nat, 52 + 2 + 52 - 52 = M := ⟨_, rfl⟩
  have hM' : 54 = M := hM
  rw [hM]
  refine congrArg some ?_
  rw [Int.natAbs_mul] at hk
  obtain ⟨f1, f2⟩ := quot_mag q.natAbs b.natAbs (-p).toNat (-r).toNat M (by omega) (by omega)
  rw [hk, hl, f1, f2, sign_mul hq0 hb0]
  show D.nearest _ _ _ = _
  have hm : 2 * (q.natAbs * 2 ^ ((-p).toNat + M - (-r).toNat)) + (0 != 0).toNat = q.natAbs * 2 ^ (-(p - r - (M : Int) - 1)).toNat := by
    have : (-(p - r - (M : Int) - 1)).toNat = ((-p).toNat + M - (-r).toNat) + 1 := by omega
    rw [this, Nat.pow_succ]
    simp only [bne_self_eq_false, Bool.toNat_false, Nat.add_zero]
    ac_rfl
  rw [hm, nearest_place _ _ _ _ (by omega), W_eq]

/-- Nought by what is none: nought, its sign the divisor's. -/
theorem div_zero_W {b : Int} (hb0 : b ≠ 0) (hb : b.natAbs < 9007199254740992) : D.div (W 0) (W b) = some (if b < 0 then 9223372036854775808 else W 0) := by
  obtain ⟨k, p, e1, h0, h1, hk, _⟩ := read_W (n := 0) (by decide)
  obtain ⟨l, r, e2, h2, h3, hl, hll⟩ := read_W hb
  have ll := hll hb0
  have l0 : l ≠ 0 := fun h => by rw [h] at ll; exact absurd ll (by decide)
  have k0 : k = 0 := by rw [hk]; simp
  subst k0
  unfold Format.div
  rw [e1, e2]
  simp only [Datum.quotient, if_neg l0, Option.map_some]
  congr 1
  simp only [Nat.shiftLeft_eq, Nat.zero_mul, Nat.zero_div, Nat.zero_mod, bne_self_eq_false, Bool.toNat_false, Nat.mul_zero, Nat.add_zero]
  show D.nearest _ _ _ = _
  by_cases h : b < 0
  · simp [h, Format.nearest]; decide
  · simp [h, Format.nearest]; decide

/-- By nought: none of nought by nought; else an infinity. -/
theorem div_by_zero {a : Int} (ha : a.natAbs < 9007199254740992) : D.div (W a) (W 0) = if a = 0 then none else some (D.word (decide (a < 0)) 9218868437227405312) := by
  obtain ⟨l, r, e2, h2, h3, hl, _⟩ := read_W (n := 0) (by decide)
  obtain ⟨k, p, e1, h0, h1, hk, hkl⟩ := read_W ha
  have l0 : l = 0 := by rw [hl]; simp
  subst l0
  unfold Format.div
  rw [e1, e2]
  simp only [Datum.quotient, if_true]
  by_cases h : a = 0
  · subst h
    have k0 : k = 0 := by rw [hk]; simp
    rw [if_pos k0, if_pos rfl]; rfl
  · have k0 : k ≠ 0 := fun h' => by have := hkl h; rw [h'] at this; exact absurd this (by decide)
    rw [if_neg k0, if_neg h]
    simp [Format.write, D_inf]

theorem cut_whole (way : Toward) (s : Bool) (m d : Nat) : way.cut s (m * 2 ^ d) d = m := by
  induction d with
  | zero => simp [cut_zero]
  | succ d ih =>
    by_cases h : m = 0
    · subst h; rw [Nat.zero_mul] at *
      by_cases hd : d = 0
      · subst hd; cases way <;> simp [Toward.cut]
      · cases way <;> simp [Toward.cut]
    · have hp := Nat.two_pow_pos d
      have hne : m * 2 ^ d ≠ 0 := Nat.mul_ne_zero h (by omega)
      rw [show m * 2 ^ (d + 1) = 2 * (m * 2 ^ d) from by rw [Nat.pow_succ]; ac_rfl, cut_double way s hne, ih]

/-- The whole number of a whole number's float. -/
theorem toInt_W {n : Int} (hn : n.natAbs < 9007199254740992) : (D.read (W n)).toInt .zero = some n := by
  obtain ⟨k, p, e1, h0, h1, rfl, _⟩ := read_W hn
  rw [e1]
  simp only [Datum.toInt, Datum.integral]
  rw [show p.toNat = 0 from by omega, Nat.shiftLeft_zero, cut_whole, signed_natAbs]
  simp

theorem integral_W {n : Int} (hn : n.natAbs < 9007199254740992) : D.write ((D.read (W n)).integral .zero) = W n := by
  obtain ⟨k, p, e1, h0, h1, rfl, _⟩ := read_W hn
  rw [e1]
  simp only [Datum.integral]
  rw [show p.toNat = 0 from by omega, Nat.shiftLeft_zero, cut_whole]
  rfl

theorem isNaN_W {n : Int} (hn : n.natAbs < 9007199254740992) : (D.read (W n)).isNaN = false := by
  obtain ⟨k, p, e1, _⟩ := read_W hn
  rw [e1]; rfl

theorem W_rung {n : Int} (h : n ≠ 0) (hn : n.natAbs < 9007199254740992) : ∃ r, W n = D.word (decide (n < 0)) r ∧ 4503599627370496 ≤ r ∧ r ≤ 4845873199050653695 := by
  obtain ⟨e, lo, hi⟩ := nearest_small (decide (n < 0)) (show n.natAbs ≠ 0 by omega) hn
  have := log_lt (show n.natAbs ≠ 0 by omega) hn
  exact ⟨_, by rw [W_eq, e], by omega, by omega⟩

theorem W_zero : W 0 = 0 := by decide

theorem W_lt {n : Int} (hn : n.natAbs < 9007199254740992) : W n < 18446744073709551616 := by
  by_cases h : n = 0
  · subst h; rw [W_zero]; omega
  · obtain ⟨r, e, lo, hi⟩ := W_rung h hn
    rw [e]; unfold Format.word; rw [D_sw]; split <;> omega

/-- '-x' of a whole number that is not nought. -/
theorem neg_word (s : Bool) {r : Nat} (h : r < 9223372036854775808) : D.word s r ^^^ 9223372036854775808 = D.word (!s) r := by
  have e : (9223372036854775808 : Nat) = 2 ^ 63 := by decide
  have hr : r < 2 ^ 63 := by omega
  have hor : 2 ^ 63 + r = 2 ^ 63 ||| r := by have := Nat.two_pow_add_eq_or_of_lt hr 1; rwa [Nat.mul_one] at this
  unfold Format.word
  rw [D_sw]
  cases s
  · simp only [Bool.false_eq_true, if_false, Bool.not_false, if_true]
    rw [e, hor]
    apply Nat.eq_of_testBit_eq
    intro i
    rw [Nat.testBit_xor, Nat.testBit_or, Nat.testBit_two_pow]
    by_cases hi : 63 = i
    · subst hi; rw [Nat.testBit_lt_two_pow hr]; rfl
    · simp [hi]
  · simp only [if_true, Bool.not_true, Bool.false_eq_true, if_false]
    rw [e, hor]
    apply Nat.eq_of_testBit_eq
    intro i
    rw [Nat.testBit_xor, Nat.testBit_or, Nat.testBit_two_pow]
    by_cases hi : 63 = i
    · subst hi; rw [Nat.testBit_lt_two_pow hr]; rfl
    · simp [hi]

theorem neg_W {n : Int} (h : n ≠ 0) (hn : n.natAbs < 9007199254740992) : Go.Op.negFloat .f64 (W n) = W (-n) := by
  have e : Go.Op.negFloat .f64 (W n) = W n ^^^ 9223372036854775808 := rfl
  obtain ⟨e1, lo, hi⟩ := nearest_small (decide (n < 0)) (show n.natAbs ≠ 0 by omega) hn
  have := log_lt (show n.natAbs ≠ 0 by omega) hn
  rw [e, W_eq, W_eq, Int.natAbs_neg]
  obtain ⟨e2, _, _⟩ := nearest_small (decide (-n < 0)) (show n.natAbs ≠ 0 by omega) hn
  rw [e1, e2, neg_word _ (by omega)]
  congr 1
  rw [Bool.eq_iff_iff]; simp; omega
end Fl
