/-
  Words of the format double: doubling a magnitude, and the word of a whole number below 2^53. Conditions: each lemma's own hypotheses.
-/
import GoSem.Core.Float
import GoSem.Op.Unary
namespace Fl
open Ieee

abbrev D : Format := Ieee.double
theorem D_lp : D.leastPlace = -1074 := by decide
theorem D_fb : D.fractionBits = 52 := rfl
theorem D_bin : D.binade = 4503599627370496 := by decide
theorem D_inf : D.infRung = 9218868437227405312 := by decide
theorem D_sw : D.signWeight = 9223372036854775808 := by decide

theorem log2_double {m : Nat} (h : m ≠ 0) : (2 * m).log2 = m.log2 + 1 := by
  rw [Nat.log2_eq_iff (by omega)]
  have h1 := Nat.log2_self_le h
  have h2 := Nat.lt_log2_self (n := m)
  rw [Nat.pow_succ] at *
  rw [Nat.pow_succ, Nat.pow_succ]
  omega

theorem cut_zero (way : Toward) (s : Bool) (n : Nat) : way.cut s n 0 = n := by
  simp only [Toward.cut, Nat.zero_min]
  cases way <;> simp [Nat.mod_one]

theorem cut_double (way : Toward) (s : Bool) {m : Nat} (h : m ≠ 0) (d : Nat) : way.cut s (2 * m) (d + 1) = way.cut s m d := by
  have e : min (d + 1) ((2 * m).log2 + 2) = min d (m.log2 + 2) + 1 := by rw [log2_double h]; omega
  simp only [Toward.cut]
  rw [e]
  generalize min d (m.log2 + 2) = k
  have e2 : (1 : Nat) <<< (k + 1) = 2 * (1 <<< k) := by rw [Nat.shiftLeft_eq, Nat.shiftLeft_eq, Nat.pow_succ]; omega
  rw [e2]
  have hg : 0 < (1 : Nat) <<< k := by rw [Nat.shiftLeft_eq]; have := Nat.two_pow_pos k; omega
  generalize (1 : Nat) <<< k = g at hg
  rw [Nat.mul_div_mul_left _ _ (by decide), Nat.mul_mod_mul_left]
  cases way
  · simp only
    have a : decide (2 * g < 2 * (2 * (m % g))) = decide (g < 2 * (m % g)) := by rw [decide_eq_decide]; omega
    have b : (2 * g == 2 * (2 * (m % g))) = (g == 2 * (m % g)) := by rw [Bool.eq_iff_iff, beq_iff_eq, beq_iff_eq]; omega
    rw [a, b]
  · have b : (2 * (m % g) != 0) = (m % g != 0) := by rw [Bool.eq_iff_iff, bne_iff_ne, bne_iff_ne]; omega
    simp only [b]
  · have b : (2 * (m % g) != 0) = (m % g != 0) := by rw [Bool.eq_iff_iff, bne_iff_ne, bne_iff_ne]; omega
    simp only [b]
  · rfl

theorem nearest_double (f : Format) (s : Bool) (m : Nat) (p : Int) : f.nearest s (2 * m) (p - 1) = f.nearest s m p := by
  by_cases h : m = 0
  · subst h; simp [Format.nearest]
  · unfold Format.nearest
    rw [if_neg (by omega), if_neg h, log2_double h]
    have e : p - 1 + ((m.log2 + 1 : Nat) : Int) - f.fractionBits = p + m.log2 - f.fractionBits := by omega
    simp only [e]
    generalize max (p + (m.log2 : Int) - f.fractionBits) f.leastPlace = last
    have e2 : Toward.even.cut s ((2 * m) <<< (p - 1 - last).toNat) (last - (p - 1)).toNat = Toward.even.cut s (m <<< (p - last).toNat) (last - p).toNat := by
      by_cases hl : last ≤ p - 1
      · have a : (last - (p - 1)).toNat = 0 := by omega
        have b : (last - p).toNat = 0 := by omega
        have c : (p - last).toNat = (p - 1 - last).toNat + 1 := by omega
        rw [a, b, c, cut_zero, cut_zero, Nat.shiftLeft_eq, Nat.shiftLeft_eq, Nat.pow_succ, Nat.mul_comm 2 m, Nat.mul_assoc, Nat.mul_comm 2]
      · have a : (p - 1 - last).toNat = 0 := by omega
        have b : (p - last).toNat = 0 := by omega
        have c : (last - (p - 1)).toNat = (last - p).toNat + 1 := by omega
        rw [a, b, c]
        simp only [Nat.shiftLeft_zero]
        exact cut_double _ _ h _
    rw [e2]

theorem nearest_shift (f : Format) (s : Bool) (m j : Nat) (p : Int) : f.nearest s (m * 2 ^ j) (p - j) = f.nearest s m p := by
  induction j generalizing m p with
  | zero => simp
  | succ j ih =>
    have e : m * 2 ^ (j + 1) = 2 * (m * 2 ^ j) := by rw [Nat.pow_succ, ← Nat.mul_assoc, Nat.mul_comm]
    have e2 : p - ((j + 1 : Nat) : Int) = (p - j) - 1 := by omega
    rw [e, e2, nearest_double, ih]

theorem nearest_place (f : Format) (s : Bool) (m : Nat) (p : Int) (h : p ≤ 0) : f.nearest s (m * 2 ^ (-p).toNat) p = f.nearest s m 0 := by
  have := nearest_shift f s m (-p).toNat 0
  rw [show (0 : Int) - ((-p).toNat : Int) = p from by omega] at this
  exact this

/-- The word of a sign and a whole number below 2^53, read again. -/
theorem log_lt {m : Nat} (h : m ≠ 0) (hm : m < 9007199254740992) : m.log2 ≤ 52 := by
  have := (Nat.log2_lt h (k := 53)).2 (by omega)
  omega

theorem nearest_small (s : Bool) {m : Nat} (h : m ≠ 0) (hm : m < 9007199254740992) :
    D.nearest s m 0 = D.word s ((m.log2 + 1022) * 4503599627370496 + m * 2 ^ (52 - m.log2)) ∧
    4503599627370496 ≤ m * 2 ^ (52 - m.log2) ∧ m * 2 ^ (52 - m.log2) < 9007199254740992 := by
  have hl := log_lt h hm
  have h1 := Nat.log2_self_le h
  have h2 := Nat.lt_log2_self (n := m)
  have b1 : 2 ^ m.log2 * 2 ^ (52 - m.log2) = 4503599627370496 := by rw [← Nat.pow_add, show m.log2 + (52 - m.log2) = 52 from by omega]
  have lo : 4503599627370496 ≤ m * 2 ^ (52 - m.log2) := by rw [← b1]; exact Nat.mul_le_mul_right _ h1
  have hi : m * 2 ^ (52 - m.log2) < 9007199254740992 := by
    have : m * 2 ^ (52 - m.log2) < 2 ^ (m.log2 + 1) * 2 ^ (52 - m.log2) := Nat.mul_lt_mul_of_pos_right h2 (Nat.two_pow_pos _)
    rw [Nat.pow_succ, Nat.mul_right_comm, b1] at this
    omega
  refine ⟨?_, lo, hi⟩
  unfold Format.nearest
  rw [if_neg h, D_lp, D_fb, D_bin, D_inf]
  have e : max ((0 : Int) + (m.log2 : Int) - ((52 : Nat) : Int)) (-1074) = (m.log2 : Int) - 52 := by omega
  simp only [e]
  have a : ((0 : Int) - ((m.log2 : Int) - 52)).toNat = 52 - m.log2 := by omega
  have b : (((m.log2 : Int) - 52) - 0).toNat = 0 := by omega
  have c : (((m.log2 : Int) - 52) - -1074).toNat = m.log2 + 1022 := by omega
  rw [a, b, c, cut_zero, Nat.shiftLeft_eq, Nat.min_eq_left (by omega)]

theorem word_div (s : Bool) {r : Nat} (h : r < 9223372036854775808) : (D.word s r / 9223372036854775808 % 2 == 1) = s ∧ D.word s r % 9223372036854775808 = r := by
  unfold Format.word
  rw [D_sw]
  cases s
  · simp only [Bool.false_eq_true, if_false]
    refine ⟨?_, by omega⟩
    rw [beq_eq_false_iff_ne]; omega
  · simp only [if_true]
    refine ⟨?_, by omega⟩
    rw [beq_iff_eq]; omega

/-- What a word reads as, by its rung. -/
theorem read_word (s : Bool) {r : Nat} (h : r < 9223372036854775808) : D.read (D.word s r) =
    if r < 4503599627370496 then .number s r (-1074)
    else if r < 9218868437227405312 then .number s (4503599627370496 + r % 4503599627370496) (-1074 + (r / 4503599627370496 - 1 : Nat))
    else if r = 9218868437227405312 then .infinity s else .nan s (r - 9218868437227405312) := by
  obtain ⟨a, b⟩ := word_div s h
  unfold Format.read
  rw [D_sw, D_bin, D_inf, D_lp]
  simp only [a, b]

theorem log_is_52 {k : Nat} (lo : 4503599627370496 ≤ k) (hi : k < 9007199254740992) : k.log2 = 52 := by
  have h0 : k ≠ 0 := by omega
  have a : k.log2 < 53 := (Nat.log2_lt h0).2 hi
  have b : 52 ≤ k.log2 := (Nat.le_log2 h0).2 lo
  omega

theorem read_small (s : Bool) {m : Nat} (hm : m < 9007199254740992) :
    ∃ (k : Nat) (p : Int), D.read (D.nearest s m 0) = .number s k p ∧ p ≤ 0 ∧ -1074 ≤ p ∧ k = m * 2 ^ (-p).toNat ∧ (m ≠ 0 → k.log2 = 52) := by
  by_cases h : m = 0
  · subst h
    refine ⟨0, -1074, ?_, by omega, by omega, by omega, fun h => absurd rfl h⟩
    have : D.nearest s 0 0 = D.word s 0 := by simp [Format.nearest]
    rw [this, read_word s (by omega), if_pos (by omega)]
  · obtain ⟨e, lo, hi⟩ := nearest_small s h hm
    have hl := log_lt h hm
    refine ⟨m * 2 ^ (52 - m.log2), (m.log2 : Int) - 52, ?_, by omega, by omega, ?_, ?_⟩
    · rw [e, read_word s (by omega), if_neg (by omega), if_pos (by omega)]
      generalize m * 2 ^ (52 - m.log2) = k at *
      have a : (((m.log2 + 1022) * 4503599627370496 + k) / 4503599627370496) = m.log2 + 1023 := by omega
      have b : (((m.log2 + 1022) * 4503599627370496 + k) % 4503599627370496) = k - 4503599627370496 := by omega
      rw [a, b]
      rw [show 4503599627370496 + (k - 4503599627370496) = k from by omega, show (-1074 : Int) + ((m.log2 + 1023 - 1 : Nat) : Int) = (m.log2 : Int) - 52 from by omega]
    · rw [show (-((m.log2 : Int) - 52)).toNat = 52 - m.log2 from by omega]
    · intro _
      exact log_is_52 lo hi
end Fl
