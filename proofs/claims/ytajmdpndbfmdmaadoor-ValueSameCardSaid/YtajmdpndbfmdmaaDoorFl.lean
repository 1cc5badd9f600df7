/-
  Words of the format double: doubling a magnitude, and the word of a whole number below 2^53. Conditions: each lemma's own hypotheses.
  Sums, differences and products of floats that are whole numbers below 2^53 are the floats of the exact results. Conditions: each lemma's own hypotheses.
  Quotients, conversions and signs of floats that are whole numbers below 2^53. Conditions: each lemma's own hypotheses.
  Any two words compare as their places do, and which floats are whole numbers below 2^53. Conditions: each lemma's own hypotheses.
  Exponent and fraction fields of whole numbers, one round of the remainder, and what the operations come to. Conditions: each lemma's own hypotheses.
  Comparisons of floats as Bool functions, and the test for the program's numbers put together. Conditions: each lemma's own hypotheses.
  What the calls of whole numbers come to, and an operation without an answer gives a NaN of the tape. Conditions: each lemma's own hypotheses.
  What the operations of the program's numbers come to, case by case, and when an operation on floats has no answer. Conditions: each lemma's own hypotheses.
  The place of a float in a string: cutting, the least and the greatest of two floats, and the sum with what is great. Conditions: each lemma's own hypotheses.
  The place of a float in a string, as the document reckons it. Conditions: each lemma's own hypotheses.
-/
import GoSem.Core.Float
import GoSem.Op.Unary
import Derived.Laws.FloatArith
import GoSem.Builtin.Min
import GoSem.Builtin.Max
namespace Fl
open Ieee

abbrev D : Format := Ieee.double
theorem D_lp : D.leastPlace = -1074 := by decide
theorem D_fb : D.fractionBits = 52 := rfl
theorem D_bin : D.binade = 4503599627370496 := by decide
theorem D_inf : D.infRung = 9218868437227405312 := by decide
theorem D_sw : D.signWeight = 9223372036854775808 := by decide

theorem log2_double {m : Nat} (h : m ≠ 0) : (2 * m).log2 = m.log2 + 1 := by
  rw [Nat.log2_eq_iff (by omega)]
  have h1 := Nat.log2_self_le h
  have h2 := Nat.lt_log2_self (n := m)
  rw [Nat.pow_succ] at *
  rw [Nat.pow_succ, Nat.pow_succ]
  omega

theorem cut_zero (way : Toward) (s : Bool) (n : Nat) : way.cut s n 0 = n := by
  simp only [Toward.cut, Nat.zero_min]
  cases way <;> simp [Nat.mod_one]

theorem cut_double (way : Toward) (s : Bool) {m : Nat} (h : m ≠ 0) (d : Nat) : way.cut s (2 * m) (d + 1) = way.cut s m d := by
  have e : min (d + 1) ((2 * m).log2 + 2) = min d (m.log2 + 2) + 1 := by rw [log2_double h]; omega
  simp only [Toward.cut]
  rw [e]
  generalize min d (m.log2 + 2) = k
  have e2 : (1 : Nat) <<< (k + 1) = 2 * (1 <<< k) := by rw [Nat.shiftLeft_eq, Nat.shiftLeft_eq, Nat.pow_succ]; omega
  rw [e2]
  have hg : 0 < (1 : Nat) <<< k := by rw [Nat.shiftLeft_eq]; have := Nat.two_pow_pos k; omega
  generalize (1 : Nat) <<< k = g at hg
  rw [Nat.mul_div_mul_left _ _ (by decide), Nat.mul_mod_mul_left]
  cases way
  · simp only
    have a : decide (2 * g < 2 * (2 * (m % g))) = decide (g < 2 * (m % g)) := by rw [decide_eq_decide]; omega
    have b : (2 * g == 2 * (2 * (m % g))) = (g == 2 * (m % g)) := by rw [Bool.eq_iff_iff, beq_iff_eq, beq_iff_eq]; omega
    rw [a, b]
  · have b : (2 * (m % g) != 0) = (m % g != 0) := by rw [Bool.eq_iff_iff, bne_iff_ne, bne_iff_ne]; omega
    simp only [b]
  · have b : (2 * (m % g) != 0) = (m % g != 0) := by rw [Bool.eq_iff_iff, bne_iff_ne, bne_iff_ne]; omega
    simp only [b]
  · rfl

theorem nearest_double (f : Format) (s : Bool) (m : Nat) (p : Int) : f.nearest s (2 * m) (p - 1) = f.nearest s m p := by
  by_cases h : m = 0
  · subst h; simp [Format.nearest]
  · unfold Format.nearest
    rw [if_neg (by omega), if_neg h, log2_double h]
    have e : p - 1 + ((m.log2 + 1 : Nat) : Int) - f.fractionBits = p + m.log2 - f.fractionBits := by omega
    simp only [e]
    generalize max (p + (m.log2 : Int) - f.fractionBits) f.leastPlace = last
    have e2 : Toward.even.cut s ((2 * m) <<< (p - 1 - last).toNat) (last - (p - 1)).toNat = Toward.even.cut s (m <<< (p - last).toNat) (last - p).toNat := by
      by_cases hl : last ≤ p - 1
      · have a : (last - (p - 1)).toNat = 0 := by omega
        have b : (last - p).toNat = 0 := by omega
        have c : (p - last).toNat = (p - 1 - last).toNat + 1 := by omega
        rw [a, b, c, cut_zero, cut_zero, Nat.shiftLeft_eq, Nat.shiftLeft_eq, Nat.pow_succ, Nat.mul_comm 2 m, Nat.mul_assoc, Nat.mul_comm 2]
      · have a : (p - 1 - last).toNat = 0 := by omega
        have b : (p - last).toNat = 0 := by omega
        have c : (last - (p - 1)).toNat = (last - p).toNat + 1 := by omega
        rw [a, b, c]
        simp only [Nat.shiftLeft_zero]
        exact cut_double _ _ h _
    rw [e2]

theorem nearest_shift (f : Format) (s : Bool) (m j : Nat) (p : Int) : f.nearest s (m * 2 ^ j) (p - j) = f.nearest s m p := by
  induction j generalizing m p with
  | zero => simp
  | succ j ih =>
    have e : m * 2 ^ (j + 1) = 2 * (m * 2 ^ j) := by rw [Nat.pow_succ, ← Nat.mul_assoc, Nat.mul_comm]
    have e2 : p - ((j + 1 : Nat) : Int) = (p - j) - 1 := by omega
    rw [e, e2, nearest_double, ih]

theorem nearest_place (f : Format) (s : Bool) (m : Nat) (p : Int) (h : p ≤ 0) : f.nearest s (m * 2 ^ (-p).toNat) p = f.nearest s m 0 := by
  have := nearest_shift f s m (-p).toNat 0
  rw [show (0 : Int) - ((-p).toNat : Int) = p from by omega] at this
  exact this

/-- The word of a sign and a whole number below 2^53, read again. -/
theorem log_lt {m : Nat} (h : m ≠ 0) (hm : m < 9007199254740992) : m.log2 ≤ 52 := by
  have := (Nat.log2_lt h (k := 53)).2 (by omega)
  omega

theorem nearest_small (s : Bool) {m : Nat} (h : m ≠ 0) (hm : m < 9007199254740992) :
    D.nearest s m 0 = D.word s ((m.log2 + 1022) * 4503599627370496 + m * 2 ^ (52 - m.log2)) ∧
    4503599627370496 ≤ m * 2 ^ (52 - m.log2) ∧ m * 2 ^ (52 - m.log2) < 9007199254740992 := by
  have hl := log_lt h hm
  have h1 := Nat.log2_self_le h
  have h2 := Nat.lt_log2_self (n := m)
  have b1 : 2 ^ m.log2 * 2 ^ (52 - m.log2) = 4503599627370496 := by rw [← Nat.pow_add, show m.log2 + (52 - m.log2) = 52 from by omega]
  have lo : 4503599627370496 ≤ m * 2 ^ (52 - m.log2) := by rw [← b1]; exact Nat.mul_le_mul_right _ h1
  have hi : m * 2 ^ (52 - m.log2) < 9007199254740992 := by
    have : m * 2 ^ (52 - m.log2) < 2 ^ (m.log2 + 1) * 2 ^ (52 - m.log2) := Nat.mul_lt_mul_of_pos_right h2 (Nat.two_pow_pos _)
    rw [Nat.pow_succ, Nat.mul_right_comm, b1] at this
    omega
  refine ⟨?_, lo, hi⟩
  unfold Format.nearest
  rw [if_neg h, D_lp, D_fb, D_bin, D_inf]
  have e : max ((0 : Int) + (m.log2 : Int) - ((52 : Nat) : Int)) (-1074) = (m.log2 : Int) - 52 := by omega
  simp only [e]
  have a : ((0 : Int) - ((m.log2 : Int) - 52)).toNat = 52 - m.log2 := by omega
  have b : (((m.log2 : Int) - 52) - 0).toNat = 0 := by omega
  have c : (((m.log2 : Int) - 52) - -1074).toNat = m.log2 + 1022 := by omega
  rw [a, b, c, cut_zero, Nat.shiftLeft_eq, Nat.min_eq_left (by omega)]

theorem word_div (s : Bool) {r : Nat} (h : r < 9223372036854775808) : (D.word s r / 9223372036854775808 % 2 == 1) = s ∧ D.word s r % 9223372036854775808 = r := by
  unfold Format.word
  rw [D_sw]
  cases s
  · simp only [Bool.false_eq_true, if_false]
    refine ⟨?_, by omega⟩
    rw [beq_eq_false_iff_ne]; omega
  · simp only [if_true]
    refine ⟨?_, by omega⟩
    rw [beq_iff_eq]; omega

/-- What a word reads as, by its rung. -/
theorem read_word (s : Bool) {r : Nat} (h : r < 9223372036854775808) : D.read (D.word s r) =
    if r < 4503599627370496 then .number s r (-1074)
    else if r < 9218868437227405312 then .number s (4503599627370496 + r % 4503599627370496) (-1074 + (r / 4503599627370496 - 1 : Nat))
    else if r = 9218868437227405312 then .infinity s else .nan s (r - 9218868437227405312) := by
  obtain ⟨a, b⟩ := word_div s h
  unfold Format.read
  rw [D_sw, D_bin, D_inf, D_lp]
  simp only [a, b]

theorem log_is_52 {k : Nat} (lo : 4503599627370496 ≤ k) (hi : k < 9007199254740992) : k.log2 = 52 := by
  have h0 : k ≠ 0 := by omega
  have a : k.log2 < 53 := (Nat.log2_lt h0).2 hi
  have b : 52 ≤ k.log2 := (Nat.le_log2 h0).2 lo
  omega

theorem read_small (s : Bool) {m : Nat} (hm : m < 9007199254740992) :
    ∃ (k : Nat) (p : Int), D.read (D.nearest s m 0) = .number s k p ∧ p ≤ 0 ∧ -1074 ≤ p ∧ k = m * 2 ^ (-p).toNat ∧ (m ≠ 0 → k.log2 = 52) := by
  by_cases h : m = 0
  · subst h
    refine ⟨0, -1074, ?_, by omega, by omega, by omega, fun h => absurd rfl h⟩
    have : D.nearest s 0 0 = D.word s 0 := by simp [Format.nearest]
    rw [this, read_word s (by omega), if_pos (by omega)]
  · obtain ⟨e, lo, hi⟩ := nearest_small s h hm
    have hl := log_lt h hm
    refine ⟨m * 2 ^ (52 - m.log2), (m.log2 : Int) - 52, ?_, by omega, by omega, ?_, ?_⟩
    · rw [e, read_word s (by omega), if_neg (by omega), if_pos (by omega)]
      generalize m * 2 ^ (52 - m.log2) = k at *
      have a : (((m.log2 + 1022) * 4503599627370496 + k) / 4503599627370496) = m.log2 + 1023 := by omega
      have b : (((m.log2 + 1022) * 4503599627370496 + k) % 4503599627370496) = k - 4503599627370496 := by omega
      rw [a, b]
      rw [show 4503599627370496 + (k - 4503599627370496) = k from by omega, show (-1074 : Int) + ((m.log2 + 1023 - 1 : Nat) : Int) = (m.log2 : Int) - 52 from by omega]
    · rw [show (-((m.log2 : Int) - 52)).toNat = 52 - m.log2 from by omega]
    · intro _
      exact log_is_52 lo hi
end Fl
namespace Fl
open Ieee

/-- The float of a whole number. -/
def W (n : Int) : Nat := Go.FloatKind.f64.nearest n
theorem W_eq (n : Int) : W n = D.nearest (decide (n < 0)) n.natAbs 0 := rfl

theorem signed_add (s : Bool) (m a b : Nat) : signed s m (a + b) = signed s m a * ((2 ^ b : Nat) : Int) := by
  unfold signed
  simp only [Nat.shiftLeft_eq, Nat.pow_add]
  rw [← Nat.mul_assoc]
  cases s
  · simp only [Bool.false_eq_true, if_false]; exact Int.natCast_mul _ _
  · simp only [if_true]; rw [Int.natCast_mul, Int.neg_mul]

theorem signed_zero (s : Bool) (m : Nat) : signed s m 0 = if s then -(m : Int) else m := by simp [signed]

theorem compare_scale (a b : Int) {c : Int} (hc : 0 < c) : compare (a * c) (b * c) = compare a b := by
  have h1 : a * c < b * c ↔ a < b := ⟨fun h => Int.lt_of_mul_lt_mul_right h (by omega), fun h => Int.mul_lt_mul_of_pos_right h hc⟩
  have h2 : a * c = b * c ↔ a = b := ⟨fun h => Int.eq_of_mul_eq_mul_right (by omega) h, fun h => by rw [h]⟩
  show compareOfLessAndEq _ _ = compareOfLessAndEq _ _
  unfold compareOfLessAndEq
  simp only [h1, h2]

theorem pos_pow (k : Nat) : (0 : Int) < ((2 ^ k : Nat) : Int) := by have := Nat.two_pow_pos k; omega

/-- The scaled worth of a number. -/
def sval (s : Bool) (m : Nat) (i : Int) : Int := signed s m (i + 1074).toNat

theorem order_num (s t : Bool) (m n : Nat) (i j : Int) (hi : -1074 ≤ i) (hj : -1074 ≤ j) :
    Datum.order (.number s m i) (.number t n j) = some (compare (sval s m i) (sval t n j)) := by
  simp only [Datum.order, sval]
  have e1 : (i + 1074).toNat = (i - min i j).toNat + (min i j + 1074).toNat := by omega
  have e2 : (j + 1074).toNat = (j - min i j).toNat + (min i j + 1074).toNat := by omega
  rw [e1, e2, signed_add, signed_add, compare_scale _ _ (pos_pow _)]

theorem signed_pow (s : Bool) (m k d : Nat) : signed s (m * 2 ^ k) d = signed s m (k + d) := by
  simp only [signed, Nat.shiftLeft_eq, Nat.pow_add, Nat.mul_assoc]

/-- The places below the point. -/
def K : Nat := 1074
theorem K_eq : K = 1074 := rfl
theorem sval_small (s : Bool) (m : Nat) {p : Int} (h0 : p ≤ 0) (h1 : -1074 ≤ p) : sval s (m * 2 ^ (-p).toNat) p = signed s m K := by
  unfold sval
  rw [signed_pow, K_eq, show (-p).toNat + (p + 1074).toNat = 1074 from by omega]

/-- What the float of a whole number reads as. -/
theorem read_W {n : Int} (hn : n.natAbs < 9007199254740992) :
    ∃ (k : Nat) (p : Int), D.read (W n) = .number (decide (n < 0)) k p ∧ p ≤ 0 ∧ -1074 ≤ p ∧ k = n.natAbs * 2 ^ (-p).toNat ∧ (n ≠ 0 → k.log2 = 52) := by
  obtain ⟨k, p, a, b, c, d, e⟩ := read_small (decide (n < 0)) hn
  exact ⟨k, p, a, b, c, d, fun h => e (by omega)⟩

theorem signed_natAbs (n : Int) (d : Nat) : signed (decide (n < 0)) n.natAbs d = n * ((2 ^ d : Nat) : Int) := by
  have h := signed_add (decide (n < 0)) n.natAbs 0 d
  rw [Nat.zero_add] at h
  rw [h, signed_zero]
  congr 1
  by_cases h0 : n < 0
  · simp [h0]; omega
  · simp [h0]; omega

theorem order_W {a b : Int} (ha : a.natAbs < 9007199254740992) (hb : b.natAbs < 9007199254740992) : D.order (W a) (W b) = some (compare a b) := by
  obtain ⟨k, p, e1, h0, h1, rfl, _⟩ := read_W ha
  obtain ⟨l, q, e2, h2, h3, rfl, _⟩ := read_W hb
  unfold Format.order
  rw [e1, e2, order_num _ _ _ _ _ _ h1 h3, sval_small _ _ h0 h1, sval_small _ _ h2 h3, signed_natAbs, signed_natAbs, compare_scale _ _ (pos_pow _)]

/-- A sum of two whole numbers: exact, then written. -/
theorem add_W {a b : Int} (ha : a.natAbs < 9007199254740992) (hb : b.natAbs < 9007199254740992) : D.add (W a) (W b) = some (W (a + b)) := by
  obtain ⟨k, p, e1, h0, h1, rfl, _⟩ := read_W ha
  obtain ⟨l, q, e2, h2, h3, rfl, _⟩ := read_W hb
  unfold Format.add
  rw [e1, e2]
  simp only [Datum.sum, Option.map_some]
  rw [signed_pow, signed_pow, show (-p).toNat + (p - min p q).toNat = (-(min p q)).toNat from by omega, show (-q).toNat + (q - min p q).toNat = (-(min p q)).toNat from by omega, signed_natAbs, signed_natAbs, ← Int.add_mul]
  have hb' : min p q ≤ 0 := by omega
  have hc := pos_pow (-(min p q)).toNat
  have hz : (a + b) * ((2 ^ (-(min p q)).toNat : Nat) : Int) = 0 ↔ a + b = 0 := by
    constructor
    · intro h; rcases Int.mul_eq_zero.1 h with h | h <;> omega
    · intro h; rw [h, Int.zero_mul]
  have hl : (a + b) * ((2 ^ (-(min p q)).toNat : Nat) : Int) < 0 ↔ a + b < 0 := by
    constructor
    · intro h; exact Int.lt_of_mul_lt_mul_right (a := ((2 ^ (-(min p q)).toNat : Nat) : Int)) (by rw [Int.zero_mul]; exact h) (by omega)
    · intro h; have := Int.mul_lt_mul_of_pos_right h hc; rwa [Int.zero_mul] at this
  have hs : (if (a + b) * ((2 ^ (-(min p q)).toNat : Nat) : Int) = 0 then (decide (a < 0) && decide (b < 0)) else decide ((a + b) * ((2 ^ (-(min p q)).toNat : Nat) : Int) < 0)) = decide (a + b < 0) := by
    split
    · rename_i h
      have := hz.1 h
      rw [Bool.eq_iff_iff]; simp; omega
    · rw [decide_eq_decide]; exact hl
  rw [hs, Int.natAbs_mul]
  show some (D.nearest _ _ _) = _
  rw [W_eq, Int.natAbs_natCast, nearest_place _ _ _ _ hb']

theorem opposite_W {b : Int} (hb : b.natAbs < 9007199254740992) : ∃ k p, (D.read (W b)).opposite = .number (!decide (b < 0)) k p ∧ p ≤ 0 ∧ -1074 ≤ p ∧ k = b.natAbs * 2 ^ (-p).toNat := by
  obtain ⟨l, q, e2, h2, h3, hk, _⟩ := read_W hb
  exact ⟨l, q, by rw [e2]; rfl, h2, h3, hk⟩

theorem signed_not (s : Bool) (m d : Nat) : signed (!s) m d = - signed s m d := by
  cases s <;> simp [signed]

theorem sub_W {a b : Int} (ha : a.natAbs < 9007199254740992) (hb : b.natAbs < 9007199254740992) : D.sub (W a) (W b) = some (W (a - b)) := by
  obtain ⟨k, p, e1, h0, h1, rfl, _⟩ := read_W ha
  obtain ⟨l, q, e2, h2, h3, rfl⟩ := opposite_W hb
  unfold Format.sub
  rw [e1, e2]
  simp only [Datum.sum, Option.map_some]
  rw [signed_not, signed_pow, signed_pow, show (-p).toNat + (p - min p q).toNat = (-(min p q)).toNat from by omega, show (-q).toNat + (q - min p q).toNat = (-(min p q)).toNat from by omega, signed_natAbs, signed_natAbs, ← Int.sub_eq_add_neg, ← Int.sub_mul]
  have hb' : min p q ≤ 0 := by omega
  have hc := pos_pow (-(min p q)).toNat
  have hz : (a - b) * ((2 ^ (-(min p q)).toNat : Nat) : Int) = 0 ↔ a - b = 0 := by
    constructor
    · intro h; rcases Int.mul_eq_zero.1 h with h | h <;> omega
    · intro h; rw [h, Int.zero_mul]
  have hl : (a - b) * ((2 ^ (-(min p q)).toNat : Nat) : Int) < 0 ↔ a - b < 0 := by
    constructor
    · intro h; exact Int.lt_of_mul_lt_mul_right (a := ((2 ^ (-(min p q)).toNat : Nat) : Int)) (by rw [Int.zero_mul]; exact h) (by omega)
    · intro h; have := Int.mul_lt_mul_of_pos_right h hc; rwa [Int.zero_mul] at this
  have hs : (if (a - b) * ((2 ^ (-(min p q)).toNat : Nat) : Int) = 0 then (decide (a < 0) && !decide (b < 0)) else decide ((a - b) * ((2 ^ (-(min p q)).toNat : Nat) : Int) < 0)) = decide (a - b < 0) := by
    split
    · rename_i h
      have := hz.1 h
      rw [Bool.eq_iff_iff]; simp; omega
    · rw [decide_eq_decide]; exact hl
  rw [hs, Int.natAbs_mul]
  show some (D.nearest _ _ _) = _
  rw [W_eq, Int.natAbs_natCast, nearest_place _ _ _ _ hb']

/-- A product: exact, then written; the sign of a nought is the factors'. -/
theorem mul_W {a b : Int} (ha : a.natAbs < 9007199254740992) (hb : b.natAbs < 9007199254740992) :
    D.mul (W a) (W b) = some (if a * b = 0 then (if a < 0 ∨ b < 0 then 9223372036854775808 else W 0) else W (a * b)) := by
  obtain ⟨k, p, e1, h0, h1, rfl, _⟩ := read_W ha
  obtain ⟨l, q, e2, h2, h3, rfl, _⟩ := read_W hb
  unfold Format.mul
  rw [e1, e2]
  simp only [Datum.product, Option.map_some]
  congr 1
  have e : a.natAbs * 2 ^ (-p).toNat * (b.natAbs * 2 ^ (-q).toNat) = (a * b).natAbs * 2 ^ (-(p + q)).toNat := by
    rw [Int.natAbs_mul, show (-(p + q)).toNat = (-p).toNat + (-q).toNat from by omega, Nat.pow_add]
    ac_rfl
  show D.nearest _ _ _ = _
  rw [e, nearest_place _ _ _ _ (by omega)]
  by_cases hz : a * b = 0
  · rw [if_pos hz, hz]
    have hz' := Int.mul_eq_zero.1 hz
    by_cases hn : a < 0 ∨ b < 0
    · rw [if_pos hn]
      have : (decide (a < 0) ^^ decide (b < 0)) = true := by
        rcases hn with h | h
        · have : b = 0 := by omega
          subst this; simp [h]
        · have : a = 0 := by omega
          subst this; simp [h]
      rw [this]; decide
    · rw [if_neg hn]
      have : (decide (a < 0) ^^ decide (b < 0)) = false := by
        have x : ¬ a < 0 := fun h => hn (.inl h)
        have y : ¬ b < 0 := fun h => hn (.inr h)
        simp [x, y]
      rw [this]; rfl
  · rw [if_neg hz, W_eq]
    congr 1
    have ha0 : a ≠ 0 := fun h => hz (by rw [h, Int.zero_mul])
    have hb0 : b ≠ 0 := fun h => hz (by rw [h, Int.mul_zero])
    rcases Int.lt_or_gt_of_ne ha0 with h | h <;> rcases Int.lt_or_gt_of_ne hb0 with h' | h'
    · have := Int.mul_pos_of_neg_of_neg h h'
      simp [h, h', show ¬ a * b < 0 from by omega]
    · have := Int.mul_neg_of_neg_of_pos h h'
      simp [h, show ¬ b < 0 from by omega, this]
    · have := Int.mul_neg_of_pos_of_neg h h'
      simp [h', show ¬ a < 0 from by omega, this]
    · have := Int.mul_pos h h'
      simp [show ¬ a < 0 from by omega, show ¬ b < 0 from by omega, show ¬ a * b < 0 from by omega]
end Fl
namespace Fl
open Ieee

theorem place_ge {m k : Nat} {p : Int} (hm : m ≠ 0) (hk : k = m * 2 ^ (-p).toNat) (kl : k.log2 = 52) : -52 ≤ p := by
  apply Int.not_lt.1
  intro h
  have k0 : k ≠ 0 := fun h => by rw [h] at kl; exact absurd kl (by decide)
  have h7 : 1 * 2 ^ (-p).toNat ≤ m * 2 ^ (-p).toNat := Nat.mul_le_mul_right _ (by omega)
  rw [← hk, Nat.one_mul] at h7
  have := (Nat.le_log2 k0).2 h7
  omega

theorem sign_mul {q b : Int} (hq0 : q ≠ 0) (hb0 : b ≠ 0) : (decide (q * b < 0) ^^ decide (b < 0)) = decide (q < 0) := by
  rcases Int.lt_or_gt_of_ne hq0 with h | h <;> rcases Int.lt_or_gt_of_ne hb0 with h' | h'
  · have := Int.mul_pos_of_neg_of_neg h h'
    simp [h, h', show ¬ q * b < 0 from by omega]
  · have := Int.mul_neg_of_neg_of_pos h h'
    simp [h, show ¬ b < 0 from by omega, this]
  · have := Int.mul_neg_of_pos_of_neg h h'
    simp [h', show ¬ q < 0 from by omega, this]
  · have := Int.mul_pos h h'
    simp [show ¬ q < 0 from by omega, show ¬ b < 0 from by omega, show ¬ q * b < 0 from by omega]

theorem quot_mag (x y i j M : Nat) (hij : j ≤ i + M) (hy : y ≠ 0) :
    (x * y * 2 ^ i) <<< M / (y * 2 ^ j) = x * 2 ^ (i + M - j) ∧ (x * y * 2 ^ i) <<< M % (y * 2 ^ j) = 0 := by
  have e : (x * y * 2 ^ i) <<< M = (x * 2 ^ (i + M - j)) * (y * 2 ^ j) := by
    rw [Nat.shiftLeft_eq]
    have : 2 ^ i * 2 ^ M = 2 ^ (i + M - j) * 2 ^ j := by rw [← Nat.pow_add, ← Nat.pow_add]; congr 1; omega
    rw [Nat.mul_assoc, this]; ac_rfl
  have hp : 0 < y * 2 ^ j := Nat.mul_pos (by omega) (Nat.two_pow_pos _)
  rw [e]
  exact ⟨Nat.mul_div_cancel _ hp, Nat.mul_mod_left _ _⟩

/-- A quotient that is a whole number. -/
theorem div_W {q b : Int} (hb0 : b ≠ 0) (hq0 : q ≠ 0) (ha : (q * b).natAbs < 9007199254740992) (hb : b.natAbs < 9007199254740992) :
    D.div (W (q * b)) (W b) = some (W q) := by
  have ha0 : q * b ≠ 0 := fun h => by rcases Int.mul_eq_zero.1 h with h | h <;> contradiction
  obtain ⟨k, p, e1, h0, h1, hk, hkl⟩ := read_W ha
  obtain ⟨l, r, e2, h2, h3, hl, hll⟩ := read_W hb
  have kl := hkl ha0
  have ll := hll hb0
  have l0 : l ≠ 0 := fun h => by rw [h] at ll; exact absurd ll (by decide)
  have hp : -52 ≤ p := place_ge (by omega) hk kl
  have hr : -52 ≤ r := place_ge (by omega) hl ll
  unfold Format.div
  rw [e1, e2]
  simp only [Datum.quotient, D_fb, kl, ll, if_neg l0, Option.map_some]
  obtain ⟨M, hM⟩ : ∃ M : Nat, 52 + 2 + 52 - 52 = M := ⟨_, rfl⟩
  have hM' : 54 = M := hM
  rw [hM]
  refine congrArg some ?_
  rw [Int.natAbs_mul] at hk
  obtain ⟨f1, f2⟩ := quot_mag q.natAbs b.natAbs (-p).toNat (-r).toNat M (by omega) (by omega)
  rw [hk, hl, f1, f2, sign_mul hq0 hb0]
  show D.nearest _ _ _ = _
  have hm : 2 * (q.natAbs * 2 ^ ((-p).toNat + M - (-r).toNat)) + (0 != 0).toNat = q.natAbs * 2 ^ (-(p - r - (M : Int) - 1)).toNat := by
    have : (-(p - r - (M : Int) - 1)).toNat = ((-p).toNat + M - (-r).toNat) + 1 := by omega
    rw [this, Nat.pow_succ]
    simp only [bne_self_eq_false, Bool.toNat_false, Nat.add_zero]
    ac_rfl
  rw [hm, nearest_place _ _ _ _ (by omega), W_eq]

/-- Nought by what is none: nought, its sign the divisor's. -/
theorem div_zero_W {b : Int} (hb0 : b ≠ 0) (hb : b.natAbs < 9007199254740992) : D.div (W 0) (W b) = some (if b < 0 then 9223372036854775808 else W 0) := by
  obtain ⟨k, p, e1, h0, h1, hk, _⟩ := read_W (n := 0) (by decide)
  obtain ⟨l, r, e2, h2, h3, hl, hll⟩ := read_W hb
  have ll := hll hb0
  have l0 : l ≠ 0 := fun h => by rw [h] at ll; exact absurd ll (by decide)
  have k0 : k = 0 := by rw [hk]; simp
  subst k0
  unfold Format.div
  rw [e1, e2]
  simp only [Datum.quotient, if_neg l0, Option.map_some]
  congr 1
  simp only [Nat.shiftLeft_eq, Nat.zero_mul, Nat.zero_div, Nat.zero_mod, bne_self_eq_false, Bool.toNat_false, Nat.mul_zero, Nat.add_zero]
  show D.nearest _ _ _ = _
  by_cases h : b < 0
  · simp [h, Format.nearest]; decide
  · simp [h, Format.nearest]; decide

/-- By nought: none of nought by nought; else an infinity. -/
theorem div_by_zero {a : Int} (ha : a.natAbs < 9007199254740992) : D.div (W a) (W 0) = if a = 0 then none else some (D.word (decide (a < 0)) 9218868437227405312) := by
  obtain ⟨l, r, e2, h2, h3, hl, _⟩ := read_W (n := 0) (by decide)
  obtain ⟨k, p, e1, h0, h1, hk, hkl⟩ := read_W ha
  have l0 : l = 0 := by rw [hl]; simp
  subst l0
  unfold Format.div
  rw [e1, e2]
  simp only [Datum.quotient, if_true]
  by_cases h : a = 0
  · subst h
    have k0 : k = 0 := by rw [hk]; simp
    rw [if_pos k0, if_pos rfl]; rfl
  · have k0 : k ≠ 0 := fun h' => by have := hkl h; rw [h'] at this; exact absurd this (by decide)
    rw [if_neg k0, if_neg h]
    simp [Format.write, D_inf]

theorem cut_whole (way : Toward) (s : Bool) (m d : Nat) : way.cut s (m * 2 ^ d) d = m := by
  induction d with
  | zero => simp [cut_zero]
  | succ d ih =>
    by_cases h : m = 0
    · subst h; rw [Nat.zero_mul] at *
      by_cases hd : d = 0
      · subst hd; cases way <;> simp [Toward.cut]
      · cases way <;> simp [Toward.cut]
    · have hp := Nat.two_pow_pos d
      have hne : m * 2 ^ d ≠ 0 := Nat.mul_ne_zero h (by omega)
      rw [show m * 2 ^ (d + 1) = 2 * (m * 2 ^ d) from by rw [Nat.pow_succ]; ac_rfl, cut_double way s hne, ih]

/-- The whole number of a whole number's float. -/
theorem toInt_W {n : Int} (hn : n.natAbs < 9007199254740992) : (D.read (W n)).toInt .zero = some n := by
  obtain ⟨k, p, e1, h0, h1, rfl, _⟩ := read_W hn
  rw [e1]
  simp only [Datum.toInt, Datum.integral]
  rw [show p.toNat = 0 from by omega, Nat.shiftLeft_zero, cut_whole, signed_natAbs]
  simp

theorem integral_W {n : Int} (hn : n.natAbs < 9007199254740992) : D.write ((D.read (W n)).integral .zero) = W n := by
  obtain ⟨k, p, e1, h0, h1, rfl, _⟩ := read_W hn
  rw [e1]
  simp only [Datum.integral]
  rw [show p.toNat = 0 from by omega, Nat.shiftLeft_zero, cut_whole]
  rfl

theorem isNaN_W {n : Int} (hn : n.natAbs < 9007199254740992) : (D.read (W n)).isNaN = false := by
  obtain ⟨k, p, e1, _⟩ := read_W hn
  rw [e1]; rfl

theorem W_rung {n : Int} (h : n ≠ 0) (hn : n.natAbs < 9007199254740992) : ∃ r, W n = D.word (decide (n < 0)) r ∧ 4503599627370496 ≤ r ∧ r ≤ 4845873199050653695 := by
  obtain ⟨e, lo, hi⟩ := nearest_small (decide (n < 0)) (show n.natAbs ≠ 0 by omega) hn
  have := log_lt (show n.natAbs ≠ 0 by omega) hn
  exact ⟨_, by rw [W_eq, e], by omega, by omega⟩

theorem W_zero : W 0 = 0 := by decide

theorem W_lt {n : Int} (hn : n.natAbs < 9007199254740992) : W n < 18446744073709551616 := by
  by_cases h : n = 0
  · subst h; rw [W_zero]; omega
  · obtain ⟨r, e, lo, hi⟩ := W_rung h hn
    rw [e]; unfold Format.word; rw [D_sw]; split <;> omega

/-- '-x' of a whole number that is not nought. -/
theorem neg_word (s : Bool) {r : Nat} (h : r < 9223372036854775808) : D.word s r ^^^ 9223372036854775808 = D.word (!s) r := by
  have e : (9223372036854775808 : Nat) = 2 ^ 63 := by decide
  have hr : r < 2 ^ 63 := by omega
  have hor : 2 ^ 63 + r = 2 ^ 63 ||| r := by have := Nat.two_pow_add_eq_or_of_lt hr 1; rwa [Nat.mul_one] at this
  unfold Format.word
  rw [D_sw]
  cases s
  · simp only [Bool.false_eq_true, if_false, Bool.not_false, if_true]
    rw [e, hor]
    apply Nat.eq_of_testBit_eq
    intro i
    rw [Nat.testBit_xor, Nat.testBit_or, Nat.testBit_two_pow]
    by_cases hi : 63 = i
    · subst hi; rw [Nat.testBit_lt_two_pow hr]; rfl
    · simp [hi]
  · simp only [if_true, Bool.not_true, Bool.false_eq_true, if_false]
    rw [e, hor]
    apply Nat.eq_of_testBit_eq
    intro i
    rw [Nat.testBit_xor, Nat.testBit_or, Nat.testBit_two_pow]
    by_cases hi : 63 = i
    · subst hi; rw [Nat.testBit_lt_two_pow hr]; rfl
    · simp [hi]

theorem neg_W {n : Int} (h : n ≠ 0) (hn : n.natAbs < 9007199254740992) : Go.Op.negFloat .f64 (W n) = W (-n) := by
  have e : Go.Op.negFloat .f64 (W n) = W n ^^^ 9223372036854775808 := rfl
  obtain ⟨e1, lo, hi⟩ := nearest_small (decide (n < 0)) (show n.natAbs ≠ 0 by omega) hn
  have := log_lt (show n.natAbs ≠ 0 by omega) hn
  rw [e, W_eq, W_eq, Int.natAbs_neg]
  obtain ⟨e2, _, _⟩ := nearest_small (decide (-n < 0)) (show n.natAbs ≠ 0 by omega) hn
  rw [e1, e2, neg_word _ (by omega)]
  congr 1
  rw [Bool.eq_iff_iff]; simp; omega
end Fl
namespace Fl
open Ieee

/-- A rung's scaled worth. -/
def rv (r : Nat) : Nat := if r < 4503599627370496 then r else (4503599627370496 + r % 4503599627370496) * 2 ^ (r / 4503599627370496 - 1)

theorem rv_lt {a b : Nat} (h : a < b) : rv a < rv b := by
  unfold rv
  by_cases ha : a < 4503599627370496
  · rw [if_pos ha]
    by_cases hb : b < 4503599627370496
    · rw [if_pos hb]; exact h
    · rw [if_neg hb]
      have : (4503599627370496 + b % 4503599627370496) * 1 ≤ (4503599627370496 + b % 4503599627370496) * 2 ^ (b / 4503599627370496 - 1) := Nat.mul_le_mul_left _ (Nat.two_pow_pos _)
      omega
  · rw [if_neg ha, if_neg (by omega)]
    by_cases hq : a / 4503599627370496 = b / 4503599627370496
    · rw [hq]
      exact Nat.mul_lt_mul_of_pos_right (by omega) (Nat.two_pow_pos _)
    · have hlt : a / 4503599627370496 < b / 4503599627370496 := by omega
      have h1 : (4503599627370496 + a % 4503599627370496) * 2 ^ (a / 4503599627370496 - 1) < (4503599627370496 * 2) * 2 ^ (a / 4503599627370496 - 1) := Nat.mul_lt_mul_of_pos_right (by omega) (Nat.two_pow_pos _)
      have h2 : (4503599627370496 * 2) * 2 ^ (a / 4503599627370496 - 1) = 4503599627370496 * 2 ^ (a / 4503599627370496) := by
        rw [Nat.mul_assoc, ← Nat.pow_succ', show (a / 4503599627370496 - 1).succ = a / 4503599627370496 from by omega]
      have h3 : 2 ^ (a / 4503599627370496) ≤ 2 ^ (b / 4503599627370496 - 1) := Nat.pow_le_pow_right (by decide) (by omega)
      have h4 : 4503599627370496 * 2 ^ (a / 4503599627370496) ≤ 4503599627370496 * 2 ^ (b / 4503599627370496 - 1) := Nat.mul_le_mul_left _ h3
      have h5 : 4503599627370496 * 2 ^ (b / 4503599627370496 - 1) ≤ (4503599627370496 + b % 4503599627370496) * 2 ^ (b / 4503599627370496 - 1) := Nat.mul_le_mul_right _ (by omega)
      omega

theorem rv_zero : rv 0 = 0 := by decide
theorem rv_lt_iff {a b : Nat} : rv a < rv b ↔ a < b := by
  constructor
  · intro h
    rcases Nat.lt_trichotomy a b with h' | h' | h'
    · exact h'
    · subst h'; omega
    · have := rv_lt h'; omega
  · exact rv_lt

/-- A sign and a size. -/
def sg (s : Bool) (r : Nat) : Int := if s then -(r : Int) else r

theorem compare_eq (a b c d : Int) (h1 : a < b ↔ c < d) (h2 : a = b ↔ c = d) : compare a b = compare c d := by
  show compareOfLessAndEq _ _ = compareOfLessAndEq _ _
  unfold compareOfLessAndEq
  simp only [h1, h2]

theorem compare_rv (s t : Bool) (a b : Nat) : compare (sg s (rv a)) (sg t (rv b)) = compare (sg s a) (sg t b) := by
  have x1 := @rv_lt_iff a b
  have x2 := @rv_lt_iff b a
  have y1 := @rv_lt_iff 0 a
  have y2 := @rv_lt_iff 0 b
  rw [rv_zero] at y1 y2
  refine compare_eq _ _ _ _ ?_ ?_
  · unfold sg; cases s <;> cases t <;> simp only [Bool.false_eq_true, if_false, if_true] <;> omega
  · unfold sg; cases s <;> cases t <;> simp only [Bool.false_eq_true, if_false, if_true] <;> omega

theorem sval_read (s : Bool) (m : Nat) (k : Nat) : sval s m (-1074 + (k : Int)) = sg s (m * 2 ^ k) := by
  unfold sval sg signed
  rw [show (-1074 + (k : Int) + 1074).toNat = k from by omega, Nat.shiftLeft_eq]

/-- Number or infinity. -/
theorem read_cases (s : Bool) {r : Nat} (h : r ≤ 9218868437227405312) :
    (r < 9218868437227405312 ∧ ∃ m k : Nat, D.read (D.word s r) = .number s m (-1074 + (k : Int)) ∧ m * 2 ^ k = rv r ∧ m < 9007199254740992 ∧ (r ≤ 4845873199050653695 → k ≤ 1074)) ∨ (r = 9218868437227405312 ∧ D.read (D.word s r) = .infinity s) := by
  rw [read_word s (by omega)]
  by_cases h1 : r < 4503599627370496
  · exact .inl ⟨by omega, r, 0, by rw [if_pos h1]; rfl, by simp [rv, h1], by omega, by omega⟩
  · by_cases h2 : r < 9218868437227405312
    · exact .inl ⟨h2, 4503599627370496 + r % 4503599627370496, r / 4503599627370496 - 1, by rw [if_neg h1, if_pos h2], by simp [rv, h1], by omega, by omega⟩
    · exact .inr ⟨by omega, by rw [if_neg h1, if_neg h2, if_pos (by omega)]⟩

theorem sg_inj (s : Bool) {a b : Nat} (h : sg s a = sg s b) : a = b := by unfold sg at h; cases s <;> simp at h <;> omega

theorem order_words (s t : Bool) {a b : Nat} (ha : a ≤ 9218868437227405312) (hb : b ≤ 9218868437227405312) :
    D.order (D.word s a) (D.word t b) = some (compare (sg s a) (sg t b)) := by
  unfold Format.order
  rcases read_cases s ha with ⟨h1, m, k, e1, v1, _⟩ | ⟨h1, e1⟩ <;> rcases read_cases t hb with ⟨h2, n, l, e2, v2, _⟩ | ⟨h2, e2⟩
  · rw [e1, e2, order_num _ _ _ _ _ _ (by omega) (by omega), sval_read, sval_read, v1, v2, compare_rv]
  · rw [e1, e2]
    have e : compare (sg s a) (sg t b) = if t then .gt else .lt := by
      show compareOfLessAndEq _ _ = _
      unfold compareOfLessAndEq sg
      cases s <;> cases t <;> simp only [Bool.false_eq_true, if_false, if_true]
      · rw [if_pos (by omega)]
      · rw [if_neg (by omega), if_neg (by omega)]
      · rw [if_pos (by omega)]
      · rw [if_neg (by omega), if_neg (by omega)]
    rw [e]; rfl
  · rw [e1, e2]
    have e : compare (sg s a) (sg t b) = if s then .lt else .gt := by
      show compareOfLessAndEq _ _ = _
      unfold compareOfLessAndEq sg
      cases s <;> cases t <;> simp only [Bool.false_eq_true, if_false, if_true]
      · rw [if_neg (by omega), if_neg (by omega)]
      · rw [if_neg (by omega), if_neg (by omega)]
      · rw [if_pos (by omega)]
      · rw [if_pos (by omega)]
    rw [e]; rfl
  · rw [e1, e2]
    subst h1 h2
    cases s <;> cases t <;> decide

/-- Which place a word has among the others (of what is no NaN). -/
def key (b : Nat) : Int := if b < 9223372036854775808 then (b : Int) else -((b : Int) - 9223372036854775808)

/-- Is a word no number? -/
def isN (b : Nat) : Bool := decide (9218868437227405312 < b % 9223372036854775808)

theorem as_word {b : Nat} (h : b < 18446744073709551616) : ∃ (s : Bool) (r : Nat), b = D.word s r ∧ r < 9223372036854775808 ∧ r = b % 9223372036854775808 ∧ s = decide (9223372036854775808 ≤ b) ∧ key b = sg s r := by
  by_cases hb : b < 9223372036854775808
  · exact ⟨false, b, by simp [Format.word], hb, by omega, by simp; omega, by simp [key, hb, sg]⟩
  · refine ⟨true, b - 9223372036854775808, ?_, by omega, by omega, by simp; omega, ?_⟩
    · simp only [Format.word, D_sw, if_true]; omega
    · simp only [key, hb, sg, if_false, if_true]; omega

theorem isN_read {b : Nat} (h : b < 18446744073709551616) : (D.read b).isNaN = isN b := by
  obtain ⟨s, r, rfl, hr, hm, _, _⟩ := as_word h
  unfold isN
  rw [← hm]
  by_cases h2 : r ≤ 9218868437227405312
  · rw [decide_eq_false (by omega)]
    rcases read_cases s h2 with ⟨h1, m, k, e1, v1, _⟩ | ⟨h1, e1⟩
    · rw [e1]; rfl
    · rw [e1]; rfl
  · rw [decide_eq_true (by omega), read_word s hr, if_neg (by omega), if_neg (by omega), if_neg (by omega)]; rfl

theorem order_key {x y : Nat} (hx : x < 18446744073709551616) (hy : y < 18446744073709551616) :
    D.order x y = if isN x || isN y then none else some (compare (key x) (key y)) := by
  have nx := isN_read hx
  have ny := isN_read hy
  obtain ⟨s, a, ex, ha, hma, _, kx⟩ := as_word hx
  obtain ⟨t, b, ey, hb, hmb, _, ky⟩ := as_word hy
  by_cases h : (isN x || isN y) = true
  · rw [if_pos h]
    unfold Format.order
    rcases Bool.or_eq_true _ _ ▸ h with h | h
    · rw [h] at nx
      cases hd : D.read x with
      | nan => rfl
      | number => rw [hd] at nx; cases nx
      | infinity => rw [hd] at nx; cases nx
    · rw [h] at ny
      cases hd : D.read y with
      | nan => cases D.read x <;> rfl
      | number => rw [hd] at ny; cases ny
      | infinity => rw [hd] at ny; cases ny
  · rw [if_neg h]
    obtain ⟨h1, h2⟩ : isN x = false ∧ isN y = false := by
      rw [Bool.not_eq_true, Bool.or_eq_false_iff] at h; exact h
    unfold isN at h1 h2
    have h1' := of_decide_eq_false h1
    have h2' := of_decide_eq_false h2
    rw [kx, ky, ex, ey, order_words s t (by omega) (by omega)]

theorem key_inj {x y : Nat} (hx : x < 18446744073709551616) (hy : y < 18446744073709551616) (h : key x = key y) (h0 : key x ≠ 0) : x = y := by
  unfold key at *
  split at h <;> split at h <;> simp_all <;> omega

theorem key_zero {x : Nat} (hx : x < 18446744073709551616) : key x = 0 ↔ x = 0 ∨ x = 9223372036854775808 := by
  unfold key; split <;> omega

theorem compare_lt {a b : Int} : compare a b = .lt ↔ a < b := by
  show compareOfLessAndEq _ _ = _ ↔ _
  unfold compareOfLessAndEq
  split
  · simp_all
  · split <;> simp_all
theorem compare_eqq {a b : Int} : compare a b = .eq ↔ a = b := by
  show compareOfLessAndEq _ _ = _ ↔ _
  unfold compareOfLessAndEq
  split
  · simp; omega
  · split <;> simp_all
theorem compare_gt {a b : Int} : compare a b = .gt ↔ b < a := by
  show compareOfLessAndEq _ _ = _ ↔ _
  unfold compareOfLessAndEq
  split
  · simp; omega
  · split
    · simp; omega
    · simp; omega

/-- The places of whole numbers are as the numbers. -/
theorem isN_W {n : Int} (hn : n.natAbs < 9007199254740992) : isN (W n) = false := by
  rw [← isN_read (W_lt hn), isNaN_W hn]

theorem key_W_compare {a b : Int} (ha : a.natAbs < 9007199254740992) (hb : b.natAbs < 9007199254740992) : compare (key (W a)) (key (W b)) = compare a b := by
  have h := order_W ha hb
  rw [order_key (W_lt ha) (W_lt hb), isN_W ha, isN_W hb] at h
  exact Option.some.inj h

theorem key_W_lt {a b : Int} (ha : a.natAbs < 9007199254740992) (hb : b.natAbs < 9007199254740992) : key (W a) < key (W b) ↔ a < b := by
  rw [← compare_lt, key_W_compare ha hb, compare_lt]
theorem key_W_eq {a b : Int} (ha : a.natAbs < 9007199254740992) (hb : b.natAbs < 9007199254740992) : key (W a) = key (W b) ↔ a = b := by
  rw [← compare_eqq, key_W_compare ha hb, compare_eqq]
theorem W_inj {a b : Int} (ha : a.natAbs < 9007199254740992) (hb : b.natAbs < 9007199254740992) (h : W a = W b) : a = b := (key_W_eq ha hb).1 (by rw [h])

theorem key_W_zero : key (W 0) = 0 := by rw [W_zero]; decide
theorem W_safe : W 9007199254740991 = 4845873199050653695 := by decide +kernel
theorem W_nsafe : W (-9007199254740991) = 14069245235905429503 := by decide +kernel
theorem key_safe : key (W 9007199254740991) = 4845873199050653695 := by rw [W_safe]; decide
theorem key_nsafe : key (W (-9007199254740991)) = -4845873199050653695 := by rw [W_nsafe]; decide

/-- A whole number that a float has, if it is one of ours. -/
def num? (b : Nat) : Option Int :=
  match (D.read b).toInt .zero with
  | some n => if n.natAbs < 9007199254740992 ∧ W n = b then some n else none
  | none => none

theorem num?_some {b : Nat} {n : Int} : num? b = some n ↔ n.natAbs < 9007199254740992 ∧ b = W n := by
  unfold num?
  constructor
  · intro h
    split at h
    · split at h
      · rename_i hc; cases h; exact ⟨hc.1, hc.2.symm⟩
      · cases h
    · cases h
  · rintro ⟨h1, rfl⟩
    simp [toInt_W h1, h1]

theorem num?_W {n : Int} (hn : n.natAbs < 9007199254740992) : num? (W n) = some n := num?_some.2 ⟨hn, rfl⟩

/-- Is a float one of our numbers? -/
def may (b : Nat) : Bool := isN b || (num? b).isSome

theorem cut_floor (s : Bool) (n d : Nat) : Toward.zero.cut s n d = n / 2 ^ d := by
  simp only [Toward.cut, Bool.toNat_false, Nat.add_zero, Nat.shiftLeft_eq, Nat.one_mul]
  by_cases h : d ≤ n.log2 + 2
  · rw [Nat.min_eq_left h]
  · rw [Nat.min_eq_right (by omega)]
    have h2 := Nat.lt_log2_self (n := n)
    have h3 : 2 ^ (n.log2 + 1) ≤ 2 ^ (n.log2 + 2) := Nat.pow_le_pow_right (by decide) (by omega)
    have h4 : 2 ^ (n.log2 + 1) ≤ 2 ^ d := Nat.pow_le_pow_right (by decide) (by omega)
    rw [Nat.div_eq_of_lt (by omega), Nat.div_eq_of_lt (by omega)]

/-- What is no greater than the greatest of ours, cut. -/
theorem cut_small {b : Nat} (hb : b < 18446744073709551616) (h1 : -4845873199050653695 ≤ key b) (h2 : key b ≤ 4845873199050653695) :
    isN b = false ∧ ∃ t : Nat, t < 9007199254740992 ∧ (D.read b).integral .zero = .number (decide (9223372036854775808 ≤ b)) t 0 ∧
      (D.read b).toInt .zero = some (sg (decide (9223372036854775808 ≤ b)) t) := by
  obtain ⟨s, r, e, hr, hm, hs, hk⟩ := as_word hb
  have hr2 : r ≤ 4845873199050653695 := by rw [hk] at h1 h2; unfold sg at h1 h2; cases s <;> simp at h1 h2 <;> omega
  refine ⟨by unfold isN; rw [← hm]; exact decide_eq_false (by omega), ?_⟩
  rcases read_cases s (r := r) (by omega) with ⟨_, m, k, e1, v1, hm1, hk1⟩ | ⟨h', _⟩
  · have hk2 := hk1 hr2
    rw [← e] at e1
    rw [e1, ← hs]
    simp only [Datum.integral, Datum.toInt]
    rw [cut_floor]
    refine ⟨_, ?_, rfl, ?_⟩
    · rw [show (-1074 + (k : Int)).toNat = 0 from by omega, Nat.shiftLeft_zero]
      exact Nat.lt_of_le_of_lt (Nat.div_le_self _ _) hm1
    · simp only [signed_zero]; rfl
  · omega

theorem W_sg (s : Bool) {t : Nat} (h : t ≠ 0) : D.nearest s t 0 = W (sg s t) := by
  rw [W_eq]
  unfold sg
  cases s
  · simp only [Bool.false_eq_true, if_false, Int.natAbs_natCast]; rw [decide_eq_false (by omega)]
  · simp only [if_true, Int.natAbs_neg, Int.natAbs_natCast]; rw [decide_eq_true (by omega)]

theorem key_W_bounds {n : Int} (hn : n.natAbs < 9007199254740992) : -4845873199050653695 ≤ key (W n) ∧ key (W n) ≤ 4845873199050653695 := by
  constructor
  · rw [← key_nsafe]
    apply Int.not_lt.1; intro h
    have := (key_W_lt hn (by decide)).1 h
    omega
  · rw [← key_safe]
    apply Int.not_lt.1; intro h
    have := (key_W_lt (by decide) hn).1 h
    omega

/-- The greater whole numbers' floats are none of ours. -/
theorem nearest_big (s : Bool) {m : Nat} (h : 9007199254740992 ≤ m) : ∃ r, D.nearest s m 0 = D.word s r ∧ 4845873199050653695 < r ∧ r ≤ 9218868437227405312 := by
  have h0 : m ≠ 0 := by omega
  have hl : 53 ≤ m.log2 := (Nat.le_log2 h0).2 h
  unfold Format.nearest
  rw [if_neg h0, D_lp, D_fb, D_bin, D_inf]
  have e : max ((0 : Int) + (m.log2 : Int) - ((52 : Nat) : Int)) (-1074) = (m.log2 : Int) - 52 := by omega
  simp only [e]
  have a : ((0 : Int) - ((m.log2 : Int) - 52)).toNat = 0 := by omega
  have b : (((m.log2 : Int) - 52) - 0).toNat = m.log2 - 52 := by omega
  have c : (((m.log2 : Int) - 52) - -1074).toNat = m.log2 + 1022 := by omega
  rw [a, b, c, Nat.shiftLeft_zero]
  have hk : 4503599627370496 ≤ Toward.even.cut s m (m.log2 - 52) := by
    simp only [Toward.cut]
    rw [Nat.min_eq_left (by omega), Nat.shiftLeft_eq, Nat.one_mul]
    have h1 := Nat.log2_self_le h0
    have h2 : 2 ^ m.log2 = 4503599627370496 * 2 ^ (m.log2 - 52) := by
      rw [show (4503599627370496 : Nat) = 2 ^ 52 from by decide, ← Nat.pow_add]; congr 1; omega
    have h3 : 4503599627370496 ≤ m / 2 ^ (m.log2 - 52) := (Nat.le_div_iff_mul_le (Nat.two_pow_pos _)).2 (by omega)
    omega
  exact ⟨_, rfl, by omega, by omega⟩

theorem word_lt2 (s : Bool) {r : Nat} (h : r < 9223372036854775808) : D.word s r < 18446744073709551616 := by
  unfold Format.word; rw [D_sw]; split <;> omega

theorem key_word (s : Bool) {r : Nat} (h : r < 9223372036854775808) : key (D.word s r) = sg s r := by
  unfold Format.word key sg
  rw [D_sw]
  cases s <;> simp <;> omega

theorem isN_word (s : Bool) {r : Nat} (h : r ≤ 9218868437227405312) : isN (D.word s r) = false := by
  unfold Format.word isN
  rw [D_sw]
  cases s <;> simp <;> omega

theorem W_big {n : Int} (h : 9007199254740992 ≤ n.natAbs) : W n < 18446744073709551616 ∧ isN (W n) = false ∧ num? (W n) = none ∧ (0 < n → 4845873199050653695 < key (W n)) ∧ (n < 0 → key (W n) < -4845873199050653695) := by
  obtain ⟨r, e, h1, h2⟩ := nearest_big (decide (n < 0)) h
  have hk := key_word (decide (n < 0)) (r := r) (by omega)
  rw [← e, ← W_eq] at hk
  refine ⟨by rw [W_eq, e]; exact word_lt2 _ (by omega), by rw [W_eq, e]; exact isN_word _ h2, ?_, ?_, ?_⟩
  · cases hn : num? (W n) with
    | none => rfl
    | some k =>
      obtain ⟨hk1, hk2⟩ := num?_some.1 hn
      have := key_W_bounds hk1
      rw [← hk2, hk] at this
      unfold sg at this
      split at this <;> omega
  · intro hp; rw [hk]; unfold sg; rw [decide_eq_false (by omega)]; simp; omega
  · intro hp; rw [hk]; unfold sg; rw [decide_eq_true hp]; simp; omega

theorem num?_none_zero : num? 9223372036854775808 = none := by decide +kernel

theorem num?_inf (s : Bool) : num? (D.word s 9218868437227405312) = none := by cases s <;> decide +kernel
theorem isN_inf (s : Bool) : isN (D.word s 9218868437227405312) = false := by cases s <;> decide +kernel

/-- A float that is cut to itself, no greater than the greatest of ours, and no minus nought, is a whole number's. -/
theorem num?_iff {b : Nat} (hb : b < 18446744073709551616) (h1 : -4845873199050653695 ≤ key b) (h2 : key b ≤ 4845873199050653695) :
    ∃ n : Int, n.natAbs < 9007199254740992 ∧ (D.read b).toInt .zero = some n ∧
      D.write ((D.read b).integral .zero) < 18446744073709551616 ∧ isN (D.write ((D.read b).integral .zero)) = false ∧
      (key (D.write ((D.read b).integral .zero)) = key (W n)) ∧
      (num? b = if key (W n) = key b ∧ b ≠ 9223372036854775808 then some n else none) := by
  obtain ⟨hN, t, ht, e1, e2⟩ := cut_small hb h1 h2
  have hsg : (sg (decide (9223372036854775808 ≤ b)) t).natAbs < 9007199254740992 := by unfold sg; split <;> omega
  refine ⟨_, hsg, e2, ?_⟩
  rw [e1]
  have hw : D.write (.number (decide (9223372036854775808 ≤ b)) t 0) = D.nearest (decide (9223372036854775808 ≤ b)) t 0 := rfl
  rw [hw]
  have part : num? b = if key (W (sg (decide (9223372036854775808 ≤ b)) t)) = key b ∧ b ≠ 9223372036854775808 then some (sg (decide (9223372036854775808 ≤ b)) t) else none := by
    unfold num?
    rw [e2]
    simp only
    by_cases hc : key (W (sg (decide (9223372036854775808 ≤ b)) t)) = key b ∧ b ≠ 9223372036854775808
    · have hWb : W (sg (decide (9223372036854775808 ≤ b)) t) = b := by
        by_cases hz : key b = 0
        · have hb0 : b = 0 := by
            rcases (key_zero hb).1 hz with h | h
            · exact h
            · exact absurd h hc.2
          have hn0 := (key_W_eq hsg (b := 0) (by decide)).1 (by rw [hc.1, hz, key_W_zero])
          rw [hn0, hb0, W_zero]
        · exact key_inj (W_lt hsg) hb hc.1 (by rw [hc.1]; exact hz)
      rw [if_pos hc, if_pos ⟨hsg, hWb⟩]
    · rw [if_neg hc, if_neg]
      rintro ⟨_, h⟩
      apply hc
      rw [h]
      refine ⟨rfl, ?_⟩
      rintro rfl
      have := num?_W hsg
      rw [h, num?_none_zero] at this
      cases this
  by_cases h0 : t = 0
  · subst h0
    have : D.nearest (decide (9223372036854775808 ≤ b)) 0 0 = D.word (decide (9223372036854775808 ≤ b)) 0 := by simp [Format.nearest]
    rw [this]
    refine ⟨word_lt2 _ (by omega), isN_word _ (by omega), ?_, part⟩
    rw [key_word _ (by omega)]
    have : ∀ s, sg s 0 = 0 := by intro s; cases s <;> rfl
    rw [this]
    exact key_W_zero.symm
  · rw [W_sg _ h0]
    exact ⟨W_lt hsg, isN_W hsg, rfl, part⟩
end Fl
namespace Fl
open Ieee

/-- The fraction field and the exponent field of a whole number's float. -/
theorem W_fields {n : Nat} (h0 : n ≠ 0) (hn : n < 9007199254740992) :
    ∃ f : Nat, W (n : Int) = (n.log2 + 1023) * 4503599627370496 + f ∧ f < 4503599627370496 ∧ 4503599627370496 + f = n * 2 ^ (52 - n.log2) ∧ n.log2 ≤ 52 := by
  have hl := log_lt h0 hn
  obtain ⟨e, lo, hi⟩ := nearest_small false h0 hn
  refine ⟨n * 2 ^ (52 - n.log2) - 4503599627370496, ?_, by omega, by omega, hl⟩
  rw [W_eq, Int.natAbs_natCast, show decide ((n : Int) < 0) = false from decide_eq_false (by omega), e]
  unfold Format.word
  simp only [Bool.false_eq_true, if_false]
  omega

theorem log2_mono {a b : Nat} (h : a ≤ b) (h0 : a ≠ 0) : a.log2 ≤ b.log2 := (Nat.le_log2 (by omega)).2 (Nat.le_trans (Nat.log2_self_le h0) h)

/-- Which power of two of y is taken off r: in one round of the remainder. -/
def takes (r y : Nat) : Nat := if W r % 4503599627370496 < W y % 4503599627370496 then r.log2 - y.log2 - 1 else r.log2 - y.log2

theorem takes_spec {r y : Nat} (hy : y ≠ 0) (hr : r < 9007199254740992) (h : y ≤ r) :
    y.log2 ≤ r.log2 ∧ (W r % 4503599627370496 < W y % 4503599627370496 → y.log2 + 1 ≤ r.log2) ∧ y * 2 ^ takes r y ≤ r := by
  obtain ⟨fr, er, hfr, kr, lr⟩ := W_fields (n := r) (by omega) hr
  obtain ⟨fy, ey, hfy, ky, ly⟩ := W_fields hy (by omega)
  have hm := log2_mono h hy
  have er' : W (r : Int) % 4503599627370496 = fr := by rw [er]; omega
  have ey' : W (y : Int) % 4503599627370496 = fy := by rw [ey]; omega
  refine ⟨hm, ?_, ?_⟩
  · rw [er', ey']
    intro hlt
    apply Nat.lt_of_le_of_ne hm
    intro heq
    have : y * 2 ^ (52 - y.log2) ≤ r * 2 ^ (52 - y.log2) := Nat.mul_le_mul_right _ h
    rw [← ky, heq, ← kr] at this
    omega
  · unfold takes
    rw [er', ey']
    split
    · have h1 := Nat.lt_log2_self (n := y)
      have h2 := Nat.log2_self_le (n := r) (by omega)
      rename_i hlt
      by_cases heq : y.log2 = r.log2
      · have : y * 2 ^ (52 - y.log2) ≤ r * 2 ^ (52 - y.log2) := Nat.mul_le_mul_right _ h
        rw [← ky, heq, ← kr] at this
        omega
      · have h3 : y * 2 ^ (r.log2 - y.log2 - 1) ≤ 2 ^ (y.log2 + 1) * 2 ^ (r.log2 - y.log2 - 1) := Nat.mul_le_mul_right _ (by omega)
        rw [← Nat.pow_add, show y.log2 + 1 + (r.log2 - y.log2 - 1) = r.log2 from by omega] at h3
        omega
    · have h3 : y * 2 ^ (52 - y.log2) ≤ r * 2 ^ (52 - r.log2) := by omega
      rw [show 52 - y.log2 = (r.log2 - y.log2) + (52 - r.log2) from by omega, Nat.pow_add, ← Nat.mul_assoc] at h3
      exact Nat.le_of_mul_le_mul_right h3 (Nat.two_pow_pos _)

theorem log2_mul_pow {y : Nat} (hy : y ≠ 0) (k : Nat) : (y * 2 ^ k).log2 = y.log2 + k := by
  induction k with
  | zero => simp
  | succ k ih =>
    rw [Nat.pow_succ, ← Nat.mul_assoc, Nat.mul_comm, log2_double (Nat.mul_ne_zero hy (by have := Nat.two_pow_pos k; omega)), ih]; omega

theorem W_ldexp {y k : Nat} (hy : y ≠ 0) (h : y * 2 ^ k < 9007199254740992) : W ((y * 2 ^ k : Nat) : Int) = W (y : Int) + k * 4503599627370496 := by
  have hp := Nat.two_pow_pos k
  have hle : y * 1 ≤ y * 2 ^ k := Nat.mul_le_mul_left _ hp
  obtain ⟨fy, ey, hfy, ky, ly⟩ := W_fields hy (by omega)
  obtain ⟨f2, e2, hf2, k2, l2⟩ := W_fields (n := y * 2 ^ k) (Nat.mul_ne_zero hy (by omega)) h
  rw [log2_mul_pow hy] at e2 k2 l2
  have : y * 2 ^ k * 2 ^ (52 - (y.log2 + k)) = y * 2 ^ (52 - y.log2) := by
    rw [Nat.mul_assoc, ← Nat.pow_add, show k + (52 - (y.log2 + k)) = 52 - y.log2 from by omega]
  rw [this, ← ky] at k2
  have hf : f2 = fy := by clear e2 ey; omega
  rw [e2, ey, hf]
  clear e2 ey k2 this l2
  rw [Nat.add_right_comm y.log2 k, Nat.add_mul (y.log2 + 1023) k]
  exact Nat.add_right_comm _ _ _

/-- 'x &^ m' and 'x | m' of the fields. -/
theorem exp_and (e f : Nat) (hf : f < 4503599627370496) : (e * 4503599627370496 + f) >>> 52 = e := by
  rw [Nat.shiftRight_eq_div_pow, show (2 : Nat) ^ 52 = 4503599627370496 from by decide]; omega

theorem or_fields (e f : Nat) (hf : f < 4503599627370496) : f ||| (e * 4503599627370496) = e * 4503599627370496 + f := by
  have h := Nat.two_pow_add_eq_or_of_lt (i := 52) (b := f) (by rw [show (2 : Nat) ^ 52 = 4503599627370496 from by decide]; exact hf) e
  rw [show (2 : Nat) ^ 52 = 4503599627370496 from by decide] at h
  rw [Nat.or_comm, Nat.mul_comm e, ← h]

/-- Remainders: by size, the sign the dividend's. -/
theorem tmod_natAbs (a b : Int) : (a.tmod b).natAbs = a.natAbs % b.natAbs := Int.natAbs_tmod a b

/- ## What the operations come to -/
def Fits (r : Nat) : Option Int → Prop
  | none => isN r = true ∧ r < 18446744073709551616
  | some n => r = W n ∧ n.natAbs < 9007199254740992

theorem Fits_lt {r : Nat} {v : Option Int} (h : Fits r v) : r < 18446744073709551616 := by
  cases v with
  | none => exact h.2
  | some n => rw [h.1]; exact W_lt h.2

def lim (n : Int) : Option Int × Int := if n.natAbs < 9007199254740992 then (some n, 0) else (some 0, 10)
def addS (a b : Int) : Option Int × Int := lim (a + b)
def subS (a b : Int) : Option Int × Int := lim (a - b)
def mulS (a b : Int) : Option Int × Int := if a * b = 0 ∧ (a < 0 ∨ b < 0) then (some 0, 10) else lim (a * b)
def divS (a b : Int) : Option Int × Int :=
  if b = 0 then (if a = 0 then (none, 0) else (some 0, 10))
  else if a.tmod b ≠ 0 then (some 0, 10)
  else if a = 0 ∧ b < 0 then (some 0, 10) else (some (a.tdiv b), 0)
def remS (a b : Int) : Option Int × Int :=
  if b = 0 then (none, 0) else if a < 0 ∧ a.tmod b = 0 then (some 0, 10) else (some (a.tmod b), 0)
def negS (a : Int) : Option Int × Int := if a = 0 then (some 0, 10) else (some (-a), 0)

/-- Of two floats: what an operation of whole numbers makes of them. -/
def two (f : Int → Int → Option Int × Int) (x y : Nat) : Option Int × Int :=
  if may x = true ∧ may y = true then (match num? x, num? y with | some a, some b => f a b | _, _ => (none, 0)) else (some 0, 2)
def one (f : Int → Option Int × Int) (x : Nat) : Option Int × Int :=
  if may x = true then (match num? x with | some a => f a | none => (none, 0)) else (some 0, 2)

/-- One of the three makes of a float. -/
inductive Make (b : Nat) : Prop where
  | nan (h : isN b = true) (h2 : num? b = none) (h3 : may b = true)
  | int (n : Int) (h : n.natAbs < 9007199254740992) (e : b = W n) (h2 : num? b = some n) (h3 : may b = true) (h4 : isN b = false)
  | bad (h : isN b = false) (h2 : num? b = none) (h3 : may b = false)

theorem isN_num? {b : Nat} (h : isN b = true) : num? b = none := by
  cases hn : num? b with
  | none => rfl
  | some n =>
    obtain ⟨h1, rfl⟩ := num?_some.1 hn
    rw [isN_W h1] at h; cases h

theorem make_of (b : Nat) : Make b := by
  cases h : isN b with
  | true => exact .nan h (isN_num? h) (by simp [may, h])
  | false =>
    cases hn : num? b with
    | none => exact .bad h hn (by simp [may, h, hn])
    | some n => exact .int n (num?_some.1 hn).1 (num?_some.1 hn).2 hn (by simp [may, hn]) h
end Fl
namespace Fl
open Ieee

theorem dec_eq (a b : Int) : (some (compare a b) == some Ordering.eq) = decide (a = b) := by
  rw [Bool.eq_iff_iff, beq_iff_eq, decide_eq_true_iff, Option.some.injEq, compare_eqq]
theorem dec_ne (a b : Int) : (some (compare a b) != some Ordering.eq) = !decide (a = b) := by
  rw [bne, dec_eq]
theorem dec_lt (a b : Int) : (some (compare a b) == some Ordering.lt) = decide (a < b) := by
  rw [Bool.eq_iff_iff, beq_iff_eq, decide_eq_true_iff, Option.some.injEq, compare_lt]
theorem dec_gt (a b : Int) : (some (compare a b) == some Ordering.gt) = decide (b < a) := by
  rw [Bool.eq_iff_iff, beq_iff_eq, decide_eq_true_iff, Option.some.injEq, compare_gt]

/-- How two floats stand to each other, by their places. -/
def feq (x y : Nat) : Bool := !isN x && !isN y && decide (key x = key y)
def flt (x y : Nat) : Bool := !isN x && !isN y && decide (key x < key y)
def fle (x y : Nat) : Bool := !isN x && !isN y && decide (key x ≤ key y)

section
variable {x y : Nat} (hx : x < 18446744073709551616) (hy : y < 18446744073709551616)
include hx hy
theorem ord_eql : (Go.FloatKind.f64.format.order x y == some .eq) = feq x y := by
  show (D.order x y == some .eq) = _
  rw [order_key hx hy]; unfold feq
  cases isN x <;> cases isN y
  · simp only [Bool.or_self, Bool.false_eq_true, if_false, Bool.not_false, Bool.true_and]; exact dec_eq _ _
  all_goals rfl
theorem ord_neq : (Go.FloatKind.f64.format.order x y != some .eq) = !feq x y := by
  rw [bne, ord_eql hx hy]
theorem ord_lss : (Go.FloatKind.f64.format.order x y == some .lt) = flt x y := by
  show (D.order x y == some .lt) = _
  rw [order_key hx hy]; unfold flt
  cases isN x <;> cases isN y
  · simp only [Bool.or_self, Bool.false_eq_true, if_false, Bool.not_false, Bool.true_and]; exact dec_lt _ _
  all_goals rfl
theorem ord_gtr : (Go.FloatKind.f64.format.order x y == some .gt) = flt y x := by
  show (D.order x y == some .gt) = _
  rw [order_key hx hy]; unfold flt
  cases isN x <;> cases isN y
  · simp only [Bool.or_self, Bool.false_eq_true, if_false, Bool.not_false, Bool.true_and]; exact dec_gt _ _
  all_goals rfl
theorem ord_leq : (Go.FloatKind.f64.format.order x y == some .lt || Go.FloatKind.f64.format.order x y == some .eq) = fle x y := by
  rw [ord_lss hx hy, ord_eql hx hy]; unfold flt feq fle
  cases isN x <;> cases isN y <;> simp
  rw [Bool.eq_iff_iff]; simp; omega
theorem ord_geq : (Go.FloatKind.f64.format.order x y == some .gt || Go.FloatKind.f64.format.order x y == some .eq) = fle y x := by
  rw [ord_gtr hx hy, ord_eql hx hy]; unfold flt feq fle
  cases isN x <;> cases isN y <;> simp
  rw [Bool.eq_iff_iff]; simp; omega
end

theorem feq_self (x : Nat) : feq x x = !isN x := by unfold feq; cases isN x <;> simp
theorem feq_comm (x y : Nat) : feq x y = feq y x := by
  unfold feq; rw [Bool.and_comm (!isN x)]; congr 1; rw [decide_eq_decide]; omega
theorem feq_W {a b : Int} (ha : a.natAbs < 9007199254740992) (hb : b.natAbs < 9007199254740992) : feq (W a) (W b) = decide (a = b) := by
  unfold feq; rw [isN_W ha, isN_W hb]; simp only [Bool.not_false, Bool.true_and]; rw [decide_eq_decide]; exact key_W_eq ha hb
theorem flt_W {a b : Int} (ha : a.natAbs < 9007199254740992) (hb : b.natAbs < 9007199254740992) : flt (W a) (W b) = decide (a < b) := by
  unfold flt; rw [isN_W ha, isN_W hb]; simp only [Bool.not_false, Bool.true_and]; rw [decide_eq_decide]; exact key_W_lt ha hb
theorem fle_W {a b : Int} (ha : a.natAbs < 9007199254740992) (hb : b.natAbs < 9007199254740992) : fle (W a) (W b) = decide (a ≤ b) := by
  unfold fle; rw [isN_W ha, isN_W hb]; simp only [Bool.not_false, Bool.true_and]; rw [decide_eq_decide]
  have := key_W_lt hb ha
  omega

/-- A float that is no NaN, cut. -/
def tr (x : Nat) : Nat := Ieee.double.write ((Ieee.double.read x).integral .zero)

theorem isN_mod {x : Nat} : isN (x % 9223372036854775808) = isN x := by unfold isN; rw [Nat.mod_mod]
theorem key_mod {x : Nat} : key (x % 9223372036854775808) = ((x % 9223372036854775808 : Nat) : Int) := by
  unfold key; rw [if_pos (Nat.mod_lt _ (by decide))]
theorem isN_safe : isN 4845873199050653695 = false := by decide
theorem key_safe' : key 4845873199050653695 = 4845873199050653695 := by decide
theorem isN_zero : isN 0 = false := by decide
theorem key_zero' : key 0 = 0 := by decide

theorem key_abs {x : Nat} (hx : x < 18446744073709551616) : ((x % 9223372036854775808 : Nat) : Int) ≤ 4845873199050653695 ↔ -4845873199050653695 ≤ key x ∧ key x ≤ 4845873199050653695 := by
  unfold key; split <;> omega

theorem num?_out {x : Nat} (h : ¬ (-4845873199050653695 ≤ key x ∧ key x ≤ 4845873199050653695)) : num? x = none := by
  cases hn : num? x with
  | none => rfl
  | some n =>
    obtain ⟨h1, rfl⟩ := num?_some.1 hn
    exact absurd (key_W_bounds h1) h

/-- num.May, put together. -/
theorem may_parts {x : Nat} (hx : x < 18446744073709551616) :
    may x = (isN x || (feq (tr x) x && (fle (x % 9223372036854775808) 4845873199050653695 && (!feq x 0 || !decide (9223372036854775808 ≤ x))))) := by
  cases hN : isN x with
  | true => simp [may, hN]
  | false =>
    have e1 : may x = (num? x).isSome := by simp [may, hN]
    rw [e1, Bool.false_or]
    have e2 : fle (x % 9223372036854775808) 4845873199050653695 = decide (((x % 9223372036854775808 : Nat) : Int) ≤ 4845873199050653695) := by
      unfold fle; rw [isN_mod, hN, isN_safe, key_mod, key_safe']; rfl
    have e3 : feq x 0 = decide (key x = 0) := by unfold feq; rw [hN, isN_zero, key_zero']; rfl
    rw [e2, e3]
    by_cases hb : -4845873199050653695 ≤ key x ∧ key x ≤ 4845873199050653695
    · rw [decide_eq_true ((key_abs hx).2 hb)]
      obtain ⟨n, hn, ht, htl, htn, htk, hq⟩ := num?_iff hx hb.1 hb.2
      have e4 : feq (tr x) x = decide (key (W n) = key x) := by
        unfold feq tr; rw [htn, hN, htk]; rfl
      rw [e4, hq]
      have hz := key_zero hx
      by_cases hk : key (W n) = key x
      · by_cases h3 : x = 9223372036854775808
        · rw [if_neg (by simp [h3])]
          subst h3; rw [show decide (key 9223372036854775808 = 0) = true from by decide]; simp
        · rw [if_pos ⟨hk, h3⟩, decide_eq_true hk]
          by_cases h0 : key x = 0
          · rcases hz.1 h0 with h | h
            · rw [h]; simp
            · exact absurd h h3
          · simp [h0]
      · rw [if_neg (fun h => hk h.1), decide_eq_false hk]; rfl
    · rw [num?_out hb, decide_eq_false (fun h => hb ((key_abs hx).1 h))]
      simp
end Fl
namespace Fl
open Go Go.RowKit

theorem isN_lt_W {n : Int} (hn : n.natAbs < 9007199254740992) : W n < 18446744073709551616 := W_lt hn

theorem toIntVal_W {n : Int} (hn : n.natAbs < 9007199254740992) : floatToIntVal .f64 (W n) .i64 = some n := by
  have h : (FloatKind.f64.decode (W n)).toInt .zero = some n := toInt_W hn
  unfold floatToIntVal
  rw [h]
  have h1 : IntKind.i64.min ≤ n := by show (-9223372036854775808 : Int) ≤ n; omega
  have h2 : n ≤ IntKind.i64.max := by show n ≤ (9223372036854775807 : Int); omega
  simp only [h1, h2, and_self, if_true]

theorem floatBits_add_W {a b : Int} (ha : a.natAbs < 9007199254740992) (hb : b.natAbs < 9007199254740992) : floatBits .add .f64 (W a) (W b) = some (W (a + b)) := add_W ha hb
theorem floatBits_sub_W {a b : Int} (ha : a.natAbs < 9007199254740992) (hb : b.natAbs < 9007199254740992) : floatBits .sub .f64 (W a) (W b) = some (W (a - b)) := sub_W ha hb
theorem floatOfInt_W (n : Int) : floatOfInt .f64 n = W n := rfl

/-- What the calls of whole numbers come to. -/
def wholeO : Option Int → Int × Bool
  | some n => (n, true)
  | none => (0, false)
def wholeS (x : Nat) : Int × Bool := wholeO (num? x)
def indexS (x : Nat) : Int × Bool := match num? x with | some n => if 0 ≤ n ∧ n < 1024 then (n, true) else (0, false) | none => (0, false)
def lessS (x y : Nat) : Int := if isN x || isN y then -1 else if key x < key y then 1 else 0
def intS (x : Nat) : Int := match num? x with | some n => wrap32 n | none => 0

/-- A word that is a NaN, as the tape draws it. -/
theorem isN_nan (t : Nat) : isN ((t % 2) * 2 ^ 63 + 0x7ff0000000000000 + 1 + (t / 2) % (2 ^ 52 - 1)) = true ∧ (t % 2) * 2 ^ 63 + 0x7ff0000000000000 + 1 + (t / 2) % (2 ^ 52 - 1) < 18446744073709551616 := by
  unfold isN
  rw [show (2 : Nat) ^ 63 = 9223372036854775808 from by decide, show (0x7ff0000000000000 : Nat) = 9218868437227405312 from rfl, show (2 : Nat) ^ 52 - 1 = 4503599627370495 from by decide]
  have h1 : t % 2 < 2 := Nat.mod_lt _ (by decide)
  have h2 : t / 2 % 4503599627370495 < 4503599627370495 := Nat.mod_lt _ (by decide)
  generalize t % 2 = u at *
  generalize t / 2 % 4503599627370495 = v at *
  have hu : u = 0 ∨ u = 1 := by omega
  rcases hu with rfl | rfl
  · exact ⟨decide_eq_true (by omega), by omega⟩
  · exact ⟨decide_eq_true (by omega), by omega⟩

section
variable {P : Program}
/-- An operation that has no answer: a NaN that the tape draws. -/
theorem run_nan (op : BinOp) (t : TypeId) (x y : Nat) (hop : op = .add ∨ op = .sub ∨ op = .mul ∨ op = .quo) (h : floatBits op .f64 x y = none) (w : World) :
    ∃ r, isN r = true ∧ r < 18446744073709551616 ∧ (binOp op t (.float .f64 x) (.float .f64 y)).run P w = .ok (.float .f64 r) w.drew := by
  refine ⟨_, (isN_nan (w.tape w.drawn (.nanBits .f64 x y))).1, (isN_nan _).2, ?_⟩
  unfold floatBits at h
  rcases hop with rfl | rfl | rfl | rfl <;> simp only at h <;> simp [binOp, Op.floatArith, h, choose, Sem.run, Question.forced, Question.cut]
end

theorem wrap32_ref (n : Int) :
    wrap32 n = (let m := n.tmod 4294967296; let m := if m < 0 then m + 4294967296 else m; if m ≥ 2147483648 then m - 4294967296 else m) := by
  have h := Int.tmod_eq_emod (a := n) (b := 4294967296)
  simp only [h]
  unfold wrap32
  split <;> split <;> split <;> omega
end Fl
namespace Fl
open Ieee Go

theorem may_W {n : Int} : may (W n) = decide (n.natAbs < 9007199254740992) := by
  by_cases h : n.natAbs < 9007199254740992
  · rw [decide_eq_true h]; unfold may; rw [num?_W h]; simp
  · obtain ⟨_, h2, h3, _, _⟩ := W_big (n := n) (by omega)
    rw [decide_eq_false h]; unfold may; rw [h2, h3]; rfl
theorem may_nzero : may 9223372036854775808 = false := by unfold may; rw [num?_none_zero]; decide
theorem may_zero : may 0 = true := by have := may_W (n := 0); rw [W_zero] at this; rw [this]; decide
theorem may_inf (s : Bool) : may (D.word s 9218868437227405312) = false := by unfold may; rw [num?_inf, isN_inf]; rfl
theorem may_nan {x : Nat} (h : isN x = true) : may x = true := by unfold may; rw [h]; rfl
theorem fits_zero : Fits 0 (some 0) := ⟨W_zero.symm, by decide⟩

/-- What 'done' makes of a word: the pair p. -/
def Done (R : Nat) (p : Option Int × Int) : Prop := R < 18446744073709551616 ∧ ((may R = true ∧ Fits R p.1 ∧ p.2 = 0) ∨ (may R = false ∧ p = (some 0, 10)))

theorem done_W (n : Int) : Done (W n) (lim n) := by
  refine ⟨D.nearest_lt (decide (n < 0)) n.natAbs 0, ?_⟩
  unfold lim
  by_cases h : n.natAbs < 9007199254740992
  · rw [if_pos h]; exact .inl ⟨by rw [may_W, decide_eq_true h], ⟨rfl, h⟩, rfl⟩
  · rw [if_neg h]; exact .inr ⟨by rw [may_W, decide_eq_false h], rfl⟩
theorem done_nan {r : Nat} (h : isN r = true) (h2 : r < 18446744073709551616) : Done r (none, 0) := ⟨h2, .inl ⟨may_nan h, ⟨h, h2⟩, rfl⟩⟩
theorem done_nzero : Done 9223372036854775808 (some 0, 10) := ⟨by decide, .inr ⟨may_nzero, rfl⟩⟩
theorem done_mul {a b : Int} : Done (if a * b = 0 then (if a < 0 ∨ b < 0 then 9223372036854775808 else W 0) else W (a * b)) (mulS a b) := by
  unfold mulS
  by_cases h : a * b = 0
  · rw [if_pos h]
    by_cases h2 : a < 0 ∨ b < 0
    · rw [if_pos h2, if_pos ⟨h, h2⟩]; exact done_nzero
    · rw [if_neg h2, if_neg (fun h' => h2 h'.2), h]; exact done_W 0
  · rw [if_neg h, if_neg (fun h' => h h'.1)]; exact done_W _

theorem read_nan {x : Nat} (hx : x < 18446744073709551616) (h : isN x = true) : ∃ s f, D.read x = .nan s f := by
  have := isN_read hx
  rw [h] at this
  cases hd : D.read x with
  | nan s f => exact ⟨s, f, rfl⟩
  | number => rw [hd] at this; cases this
  | infinity => rw [hd] at this; cases this

section
variable {x y : Nat} (hx : x < 18446744073709551616) (hy : y < 18446744073709551616) (h : isN x = true ∨ isN y = true)
include hx hy h
theorem add_none : floatBits .add .f64 x y = none := by
  show D.add x y = none
  unfold Format.add
  rcases h with h | h
  · obtain ⟨s, f, e⟩ := read_nan hx h
    rw [e]; cases D.read y <;> rfl
  · obtain ⟨s, f, e⟩ := read_nan hy h
    rw [e]; cases D.read x <;> rfl
theorem sub_none : floatBits .sub .f64 x y = none := by
  show D.sub x y = none
  unfold Format.sub
  rcases h with h | h
  · obtain ⟨s, f, e⟩ := read_nan hx h
    rw [e]; cases D.read y <;> rfl
  · obtain ⟨s, f, e⟩ := read_nan hy h
    rw [e]; cases D.read x <;> rfl
theorem mul_none : floatBits .mul .f64 x y = none := by
  show D.mul x y = none
  unfold Format.mul
  rcases h with h | h
  · obtain ⟨s, f, e⟩ := read_nan hx h
    rw [e]; cases D.read y <;> rfl
  · obtain ⟨s, f, e⟩ := read_nan hy h
    rw [e]; cases D.read x <;> rfl
theorem div_none : floatBits .quo .f64 x y = none := by
  show D.div x y = none
  unfold Format.div
  rcases h with h | h
  · obtain ⟨s, f, e⟩ := read_nan hx h
    rw [e]; cases D.read y <;> rfl
  · obtain ⟨s, f, e⟩ := read_nan hy h
    rw [e]; cases D.read x <;> rfl
end
theorem div_none_zero : floatBits .quo .f64 0 0 = none := by decide +kernel

/-- A NaN with the other sign is one. -/
theorem isN_neg {x : Nat} (hx : x < 18446744073709551616) : isN (Op.negFloat .f64 x) = isN x ∧ Op.negFloat .f64 x < 18446744073709551616 := by
  obtain ⟨s, r, e, hr, hm, _, _⟩ := as_word hx
  have h : Op.negFloat .f64 x = D.word (!s) r := by
    show x ^^^ 9223372036854775808 = _
    rw [e, neg_word s hr]
  rw [h]
  refine ⟨?_, word_lt2 _ hr⟩
  unfold isN
  have h2 : D.word (!s) r % 9223372036854775808 = r := (word_div (!s) hr).2
  rw [h2, hm]

theorem two_bad {f : Int → Int → Option Int × Int} {x y : Nat} (h : may x = false ∨ may y = false) : two f x y = (some 0, 2) := by
  unfold two
  rw [if_neg]
  rintro ⟨h1, h2⟩
  rcases h with h | h
  · rw [h1] at h; cases h
  · rw [h2] at h; cases h
theorem two_nan {f : Int → Int → Option Int × Int} {x y : Nat} (h1 : may x = true) (h2 : may y = true) (h : num? x = none ∨ num? y = none) : two f x y = (none, 0) := by
  unfold two
  rw [if_pos ⟨h1, h2⟩]
  rcases h with h | h
  · rw [h]
  · rw [h]; cases num? x <;> rfl
theorem two_int {f : Int → Int → Option Int × Int} {x y : Nat} {a b : Int} (h1 : may x = true) (h2 : may y = true) (ha : num? x = some a) (hb : num? y = some b) : two f x y = f a b := by
  unfold two
  rw [if_pos ⟨h1, h2⟩, ha, hb]
end Fl
namespace Fl
open Ieee Go

theorem nearest_word (s : Bool) (m : Nat) (p : Int) : ∃ r, D.nearest s m p = D.word s r ∧ r ≤ 9218868437227405312 := by
  unfold Format.nearest
  rw [D_inf]
  by_cases h : m = 0
  · rw [if_pos h]; exact ⟨0, rfl, by omega⟩
  · rw [if_neg h]
    exact ⟨_, rfl, Nat.min_le_right _ _⟩

/-- The rung of a whole number's float, its worth. -/
theorem rung_W {n : Nat} (hn : n < 9007199254740992) : ∃ r, W n = D.word false r ∧ r ≤ 4845873199050653695 ∧ key (W n) = r ∧ rv r = n * 2 ^ 1074 := by
  have hn' : ((n : Int)).natAbs < 9007199254740992 := by simpa using hn
  obtain ⟨s, r, e, hr, hm, hs, hk⟩ := as_word (W_lt hn')
  obtain ⟨k1, k2⟩ := key_W_bounds hn'
  have hs0 : s = false := by
    cases s with
    | false => rfl
    | true =>
      have h0 : 0 ≤ key (W (n : Int)) := by
        rw [← key_W_zero]
        apply Int.not_lt.1; intro h
        have := (key_W_lt hn' (b := 0) (by decide)).1 h
        omega
      obtain ⟨K, p, e1, _, _, _, _⟩ := read_W hn'
      have hge : 9223372036854775808 ≤ W (n : Int) := by simpa using hs
      have hd : decide ((n : Int) < 0) = false := by simp
      have := read_word true (r := r) hr
      rw [← e, e1, hd] at this
      split at this
      · cases this
      · split at this
        · cases this
        · split at this <;> cases this
  subst hs0
  have hkr : key (W (n : Int)) = (r : Int) := by rw [hk]; rfl
  refine ⟨r, e, by omega, hkr, ?_⟩
  obtain ⟨K, p, e1, h0, h1, hK, _⟩ := read_W hn'
  rcases read_cases false (r := r) (by omega) with ⟨_, m, k, e2, v1, hm1, hk1⟩ | ⟨h', _⟩
  · rw [← e, e1] at e2
    injection e2 with _ h3 h4
    subst h3
    rw [← v1, hK, show k = (p + 1074).toNat from by omega, Int.natAbs_natCast, Nat.mul_assoc, ← Nat.pow_add]
    congr 2; omega
  · omega

/-- How far from nought a float stands, cut; what is too great for ours is 2^53. -/
def tn (x : Nat) : Nat := if x % 9223372036854775808 ≤ 4845873199050653695 then (((D.read x).toInt .zero).getD 0).natAbs else 9007199254740992

theorem tn_small {x : Nat} (hx : x < 18446744073709551616) (h : x % 9223372036854775808 ≤ 4845873199050653695) :
    tn x < 9007199254740992 ∧ isN x = false ∧ (D.read x).toInt .zero = some (sg (decide (9223372036854775808 ≤ x)) (tn x)) ∧ tr x = D.nearest (decide (9223372036854775808 ≤ x)) (tn x) 0 ∧
    ∀ n : Nat, n < 9007199254740992 → (n ≤ tn x ↔ key (W n) ≤ ((x % 9223372036854775808 : Nat) : Int)) := by
  have hb := (key_abs hx).1 (by omega)
  obtain ⟨hN, t, ht, e1, e2⟩ := cut_small hx hb.1 hb.2
  have hsg : (sg (decide (9223372036854775808 ≤ x)) t).natAbs = t := by unfold sg; split <;> omega
  have htn : tn x = t := by unfold tn; rw [if_pos h, e2]; exact hsg
  rw [htn]
  refine ⟨ht, hN, e2, ?_, ?_⟩
  · unfold tr; rw [e1]; rfl
  · intro n hn
    obtain ⟨s, r, e, hr, hm, hs, hk⟩ := as_word hx
    obtain ⟨rn, _, _, hkn, hvn⟩ := rung_W hn
    rw [hkn, ← hm]
    rcases read_cases s (r := r) (by omega) with ⟨_, m, k, e3, v1, hm1, hk1⟩ | ⟨h', _⟩
    · have hk2 := hk1 (by omega)
      rw [← e] at e3
      rw [e3] at e1
      simp only [Datum.integral] at e1
      injection e1 with _ e4
      rw [cut_floor, show (-1074 + (k : Int)).toNat = 0 from by omega, Nat.shiftLeft_zero, show (-(-1074 + (k : Int))).toNat = 1074 - k from by omega] at e4
      rw [← e4, Nat.le_div_iff_mul_le (Nat.two_pow_pos _)]
      have h1 : (n * 2 ^ (1074 - k) ≤ m) ↔ rv rn ≤ rv r := by
        rw [hvn, ← v1]
        have : n * 2 ^ 1074 = n * 2 ^ (1074 - k) * 2 ^ k := by rw [Nat.mul_assoc, ← Nat.pow_add]; congr 2; omega
        rw [this]
        exact (Nat.mul_le_mul_right_iff (Nat.two_pow_pos k)).symm
      rw [h1]
      have := @rv_lt_iff r rn
      omega
    · omega

theorem tn_big {x : Nat} (hx : x < 18446744073709551616) (h : ¬ x % 9223372036854775808 ≤ 4845873199050653695) (hN : isN x = false) :
    tn x = 9007199254740992 ∧ ∃ r, tr x = D.word (decide (9223372036854775808 ≤ x)) r ∧ 4845873199050653695 < r ∧ r ≤ 9218868437227405312 := by
  refine ⟨by unfold tn; rw [if_neg h], ?_⟩
  obtain ⟨s, r, e, hr, hm, hs, hk⟩ := as_word hx
  have hr2 : r ≤ 9218868437227405312 := by
    unfold isN at hN; rw [← hm] at hN; simpa using hN
  rw [← hs]
  unfold tr
  show ∃ r, D.write ((D.read x).integral .zero) = _ ∧ _
  rw [e, read_word s hr]
  rw [if_neg (by omega)]
  by_cases h2 : r < 9218868437227405312
  · rw [if_pos h2]
    simp only [Datum.integral]
    rw [cut_floor]
    obtain ⟨j, hj⟩ : ∃ j : Nat, j = r / 4503599627370496 - 1 - 1074 := ⟨_, rfl⟩
    have h3 : 1075 ≤ r / 4503599627370496 - 1 := by omega
    rw [show (-1074 + ((r / 4503599627370496 - 1 : Nat) : Int)).toNat = j from by omega, show (-(-1074 + ((r / 4503599627370496 - 1 : Nat) : Int))).toNat = 0 from by omega, Nat.pow_zero, Nat.div_one, Nat.shiftLeft_eq]
    have hj1 : 1 ≤ j := by omega
    have hp : 2 ^ 1 ≤ 2 ^ j := Nat.pow_le_pow_right (by decide) hj1
    have hmul : 4503599627370496 * 2 ≤ (4503599627370496 + r % 4503599627370496) * 2 ^ j := Nat.mul_le_mul (by omega) (by omega)
    exact nearest_big s (by omega)
  · rw [if_neg h2, if_pos (by omega)]
    exact ⟨9218868437227405312, by simp [Datum.integral, Format.write, D_inf], by omega, by omega⟩

/-- A whole number and a great one below nought: no greater than nought. -/
theorem add_big {n r : Nat} (hn : n < 9007199254740992) (h1 : 4845873199050653695 < r) (h2 : r ≤ 9218868437227405312) :
    ∃ R, floatBits .add .f64 (W n) (D.word true r) = some R ∧ R < 18446744073709551616 ∧ isN R = false ∧ key R ≤ 0 := by
  have hn' : ((n : Int)).natAbs < 9007199254740992 := by simpa using hn
  have fin : ∀ p : Nat, p ≤ 9218868437227405312 → D.word true p < 18446744073709551616 ∧ isN (D.word true p) = false ∧ key (D.word true p) ≤ 0 := by
    intro p hp
    refine ⟨word_lt2 _ (by omega), isN_word _ hp, ?_⟩
    rw [key_word _ (by omega)]; unfold sg; simp
  show ∃ R, D.add (W n) (D.word true r) = some R ∧ _
  unfold Format.add
  obtain ⟨K, p, e1, h0, hp1, hK, _⟩ := read_W hn'
  rw [e1, show decide ((n : Int) < 0) = false from by simp]
  rcases read_cases true (r := r) h2 with ⟨_, m, k, e2, v1, hm1, hk1⟩ | ⟨h', e2⟩
  · rw [e2]
    simp only [Datum.sum, Option.map_some]
    obtain ⟨b, hb⟩ : ∃ b, b = min p (-1074 + (k : Int)) := ⟨_, rfl⟩
    rw [← hb]
    obtain ⟨tot, htot⟩ : ∃ t, t = signed false K (p - b).toNat + signed true m (-1074 + (k : Int) - b).toNat := ⟨_, rfl⟩
    rw [← htot]
    have hneg : tot < 0 := by
      have e3 : tot * ((2 ^ (b + 1074).toNat : Nat) : Int) = signed false K (p + 1074).toNat + signed true m k := by
        rw [htot, Int.add_mul, ← signed_add, ← signed_add]
        congr 2 <;> omega
      have e4 : signed false K (p + 1074).toNat = ((n * 2 ^ 1074 : Nat) : Int) := by
        rw [hK, Int.natAbs_natCast]
        rw [show n * 2 ^ (-p).toNat = n * 2 ^ (-p).toNat from rfl, signed_pow, show (-p).toNat + (p + 1074).toNat = 1074 from by omega]
        unfold signed
        rw [Nat.shiftLeft_eq]; rfl
      have e5 : signed true m k = -((rv r : Nat) : Int) := by
        unfold signed; rw [Nat.shiftLeft_eq, v1]; rfl
      obtain ⟨rn, _, hrn, _, hvn⟩ := rung_W hn
      have hlt : rv rn < rv r := rv_lt (by omega)
      rw [hvn] at hlt
      rw [e4, e5] at e3
      have hc := pos_pow (b + 1074).toNat
      have : tot * ((2 ^ (b + 1074).toNat : Nat) : Int) < 0 := by rw [e3]; omega
      exact Int.lt_of_mul_lt_mul_right (a := ((2 ^ (b + 1074).toNat : Nat) : Int)) (by rw [Int.zero_mul]; exact this) (by omega)
    rw [if_neg (by omega), decide_eq_true hneg]
    obtain ⟨q, hq, hq2⟩ := nearest_word true tot.natAbs b
    exact ⟨D.word true q, by rw [← hq]; rfl, fin q hq2⟩
  · rw [e2]
    exact ⟨_, rfl, by rw [show D.write (.infinity true) = D.word true 9218868437227405312 from by simp [Format.write, D_inf]]; exact fin _ (by omega)⟩

theorem add_nzero {n : Nat} (hn : n < 9007199254740992) : floatBits .add .f64 (W n) 9223372036854775808 = some (W n) := by
  have hn' : ((n : Int)).natAbs < 9007199254740992 := by simpa using hn
  show D.add (W n) 9223372036854775808 = some (W n)
  unfold Format.add
  obtain ⟨K, p, e1, h0, hp1, hK, _⟩ := read_W hn'
  have e2 : D.read 9223372036854775808 = .number true 0 (-1074) := by decide
  rw [e1, e2, show decide ((n : Int) < 0) = false from by simp]
  simp only [Datum.sum, Option.map_some]
  rw [show min p (-1074) = -1074 from by omega]
  have e3 : signed true 0 ((-1074 : Int) - -1074).toNat = 0 := by decide
  rw [e3, Int.add_zero]
  have e4 : signed false K (p - -1074).toNat = ((K * 2 ^ (p + 1074).toNat : Nat) : Int) := by
    unfold signed; rw [Nat.shiftLeft_eq, show (p - -1074).toNat = (p + 1074).toNat from by omega]; rfl
  rw [e4]
  have e5 : (if ((K * 2 ^ (p + 1074).toNat : Nat) : Int) = 0 then (false && true) else decide (((K * 2 ^ (p + 1074).toNat : Nat) : Int) < 0)) = false := by
    split
    · rfl
    · exact decide_eq_false (by omega)
  rw [e5, Int.natAbs_natCast]
  show some (D.nearest false (K * 2 ^ (p + 1074).toNat) (-1074)) = _
  have := nearest_shift D false K (p + 1074).toNat p
  rw [show p - ((p + 1074).toNat : Int) = -1074 from by omega] at this
  rw [this, hK, Int.natAbs_natCast, nearest_place _ _ _ _ h0, W_eq, Int.natAbs_natCast, show decide ((n : Int) < 0) = false from by simp]

/-- The place of a float in a string of n bytes. -/
def placeS (n x : Nat) : Nat := if isN x then 0 else if key x < 0 then n - tn x else min n (tn x)

theorem placeS_le (n x : Nat) : placeS n x ≤ n := by unfold placeS; split <;> (try split) <;> omega

theorem fmin (ts : Array TypeId) (t : TypeId) (x y : Nat) (hx : x < 18446744073709551616) (hy : y < 18446744073709551616) (nx : isN x = false) (ny : isN y = false) (P : Program) (w : World) :
    (Go.Builtin.min_ ts t #[.float .f64 x, .float .f64 y]).run P w = .ok (.float .f64 (if key x < key y then x else if key y < key x then y else if (Go.FloatKind.f64.decode x).neg then x else y)) w := by
  have h : Go.FloatKind.f64.format.order x y = some (compare (key x) (key y)) := by
    show D.order x y = _
    rw [order_key hx hy, nx, ny]; rfl
  simp only [Go.Builtin.min_, List.foldlM, Go.Builtin.min2, h]
  by_cases h1 : key x < key y
  · rw [compare_lt.2 h1, if_pos h1]; rfl
  · rw [if_neg h1]
    by_cases h2 : key y < key x
    · rw [compare_gt.2 h2, if_pos h2]; rfl
    · rw [compare_eqq.2 (by omega), if_neg h2]; rfl

theorem fmax (ts : Array TypeId) (t : TypeId) (x y : Nat) (hx : x < 18446744073709551616) (hy : y < 18446744073709551616) (nx : isN x = false) (ny : isN y = false) (P : Program) (w : World) :
    (Go.Builtin.max_ ts t #[.float .f64 x, .float .f64 y]).run P w = .ok (.float .f64 (if key x < key y then y else if key y < key x then x else if (Go.FloatKind.f64.decode x).neg then y else x)) w := by
  have h : Go.FloatKind.f64.format.order x y = some (compare (key x) (key y)) := by
    show D.order x y = _
    rw [order_key hx hy, nx, ny]; rfl
  simp only [Go.Builtin.max_, List.foldlM, Go.Builtin.max2, h]
  by_cases h1 : key x < key y
  · rw [compare_lt.2 h1, if_pos h1]; rfl
  · rw [if_neg h1]
    by_cases h2 : key y < key x
    · rw [compare_gt.2 h2, if_pos h2]; rfl
    · rw [compare_eqq.2 (by omega), if_neg h2]; rfl

theorem neg_zero_decode : (Go.FloatKind.f64.decode 0).neg = false := by decide +kernel
theorem toIntVal_nzero : Go.floatToIntVal .f64 9223372036854775808 .i64 = some 0 := by decide +kernel

theorem W_nat_lt {n : Nat} (hn : n < 9007199254740992) : W n < 18446744073709551616 ∧ isN (W n) = false := by
  have h : ((n : Int)).natAbs < 9007199254740992 := by simpa using hn
  exact ⟨W_lt h, isN_W h⟩

theorem min_place {n x : Nat} (hn : n < 9007199254740992) (hx : x < 18446744073709551616) (hN : isN x = false) (hk : ¬ key x < 0) :
    isN (tr x) = false ∧ ∃ Z, (∀ ts t P w, (Go.Builtin.min_ ts t #[.float .f64 (W n), .float .f64 (tr x)]).run P w = .ok (.float .f64 Z) w) ∧ Go.floatToIntVal .f64 Z .i64 = some ((placeS n x : Nat) : Int) := by
  have hp : placeS n x = min n (tn x) := by unfold placeS; rw [hN]; simp only [Bool.false_eq_true, if_false]; rw [if_neg hk]
  obtain ⟨hWl, hWn⟩ := W_nat_lt hn
  have hn' : ((n : Int)).natAbs < 9007199254740992 := by simpa using hn
  rw [hp]
  by_cases h : x % 9223372036854775808 ≤ 4845873199050653695
  · obtain ⟨ht, _, _, e2, _⟩ := tn_small hx h
    generalize tn x = t at ht e2 ⊢
    have ht' : ((t : Int)).natAbs < 9007199254740992 := by simpa using ht
    by_cases hs : 9223372036854775808 ≤ x
    · have hx0 : x = 9223372036854775808 := by unfold key at hk; split at hk <;> omega
      have hT : tr x = 9223372036854775808 := by rw [hx0]; decide +kernel
      have ht0 : t = 0 := by
        cases t with
        | zero => rfl
        | succ t =>
          rw [hT, W_sg _ (by omega)] at e2
          exfalso
          have h1 : (sg (decide (9223372036854775808 ≤ x)) (t + 1)).natAbs < 9007199254740992 := by unfold sg; split <;> omega
          have h2 := num?_W h1
          rw [← e2, num?_none_zero] at h2
          cases h2
      rw [hT, ht0]
      refine ⟨by decide, 9223372036854775808, fun ts ty P w => ?_, by rw [toIntVal_nzero]; simp⟩
      rw [fmin ts ty (W n) 9223372036854775808 hWl (by decide) hWn (by decide) P w]
      have hk0 : key 9223372036854775808 = 0 := by decide
      have hge : 0 ≤ key (W n) := by obtain ⟨r, _, _, h3, _⟩ := rung_W hn; omega
      rw [hk0, if_neg (by omega)]
      by_cases hz : 0 < key (W n)
      · rw [if_pos hz]
      · rw [if_neg hz]
        have : n = 0 := by
          have := (key_W_eq hn' (b := 0) (by decide)).1 (by rw [key_W_zero]; omega)
          omega
        subst this
        rw [show W ((0 : Nat) : Int) = 0 from W_zero, neg_zero_decode]
        rfl
    · have hT : tr x = W t := by
        rw [e2, decide_eq_false hs, W_eq, Int.natAbs_natCast, show decide ((t : Int) < 0) = false from by simp]
      obtain ⟨hTl, hTn⟩ := W_nat_lt ht
      rw [hT]
      refine ⟨hTn, W ((min n t : Nat) : Int), fun ts ty P w => ?_, toIntVal_W (by simp; omega)⟩
      rw [fmin ts ty (W n) (W t) hWl hTl hWn hTn P w]
      have k1 := key_W_lt hn' ht'
      have k2 := key_W_lt ht' hn'
      by_cases h1 : n < t
      · rw [if_pos (k1.2 (by omega)), show min n t = n from by omega]
      · rw [if_neg (fun hh => h1 (by have := k1.1 hh; omega))]
        by_cases h2 : t < n
        · rw [if_pos (k2.2 (by omega)), show min n t = t from by omega]
        · rw [if_neg (fun hh => h2 (by have := k2.1 hh; omega)), show min n t = t from by omega, show n = t from by omega]
          simp
  · obtain ⟨htn, r, hT, h1, h2⟩ := tn_big hx h hN
    have hs : ¬ 9223372036854775808 ≤ x := by intro hs; unfold key at hk; split at hk <;> omega
    rw [decide_eq_false hs] at hT
    have hkT : key (tr x) = r := by rw [hT, key_word _ (by omega)]; rfl
    have hNT : isN (tr x) = false := by rw [hT]; exact isN_word _ h2
    have hlT : tr x < 18446744073709551616 := by rw [hT]; exact word_lt2 _ (by omega)
    rw [htn]
    refine ⟨hNT, W n, fun ts ty P w => ?_, by rw [show min n 9007199254740992 = n from by omega]; exact toIntVal_W hn'⟩
    rw [fmin ts ty (W n) (tr x) hWl hlT hWn hNT P w]
    have := (key_W_bounds hn').2
    rw [if_pos (by omega)]

theorem max_place {n x : Nat} (hn : n < 9007199254740992) (hx : x < 18446744073709551616) (hN : isN x = false) (hk : key x < 0) :
    ∃ S Z, floatBits .add .f64 (W n) (tr x) = some S ∧ (∀ ts t P w, (Go.Builtin.max_ ts t #[.float .f64 0, .float .f64 S]).run P w = .ok (.float .f64 Z) w) ∧ Go.floatToIntVal .f64 Z .i64 = some ((placeS n x : Nat) : Int) := by
  have hp : placeS n x = n - tn x := by unfold placeS; rw [hN]; simp only [Bool.false_eq_true, if_false]; rw [if_pos hk]
  obtain ⟨hWl, hWn⟩ := W_nat_lt hn
  have hn' : ((n : Int)).natAbs < 9007199254740992 := by simpa using hn
  have hs : 9223372036854775808 ≤ x := by unfold key at hk; split at hk <;> omega
  rw [hp]
  by_cases h : x % 9223372036854775808 ≤ 4845873199050653695
  · obtain ⟨ht, _, _, e2, _⟩ := tn_small hx h
    generalize tn x = t at ht e2 ⊢
    rw [decide_eq_true hs] at e2
    have hS : floatBits .add .f64 (W n) (tr x) = some (W ((n : Int) - t)) := by
      by_cases h0 : t = 0
      · rw [e2, h0, show D.nearest true 0 0 = 9223372036854775808 from by decide +kernel, add_nzero hn]; simp
      · rw [e2, W_sg _ h0, floatBits_add_W hn' (by unfold sg; simp; omega)]
        rfl
    have hd : ((n : Int) - t).natAbs < 9007199254740992 := by omega
    refine ⟨_, W ((n - t : Nat) : Int), hS, fun ts ty P w => ?_, toIntVal_W (by omega)⟩
    rw [fmax ts ty 0 _ (by decide) (W_lt hd) (by decide) (isN_W hd) P w]
    rw [← W_zero]
    have k1 := key_W_lt (a := 0) (by decide) hd
    have k2 := key_W_lt hd (b := 0) (by decide)
    by_cases h1 : (0 : Int) < (n : Int) - t
    · rw [if_pos (k1.2 h1), show ((n - t : Nat) : Int) = (n : Int) - t from by omega]
    · rw [if_neg (fun hh => h1 (k1.1 hh))]
      by_cases h2 : (n : Int) - t < 0
      · rw [if_pos (k2.2 h2), show ((n - t : Nat) : Int) = 0 from by omega]
      · rw [if_neg (fun hh => h2 (k2.1 hh)), show (n : Int) - t = 0 from by omega, show ((n - t : Nat) : Int) = 0 from by omega]
        simp
  · obtain ⟨htn, r, hT, h1, h2⟩ := tn_big hx h hN
    rw [decide_eq_true hs] at hT
    obtain ⟨R, hR, hRl, hRn, hRk⟩ := add_big hn h1 h2
    rw [htn, hT]
    refine ⟨R, W 0, hR, fun ts ty P w => ?_, by rw [show n - 9007199254740992 = 0 from by omega]; exact toIntVal_W (by decide)⟩
    rw [fmax ts ty 0 R (by decide) hRl (by decide) hRn P w, show key 0 = 0 from by decide, if_neg (by omega)]
    by_cases hz : key R < 0
    · rw [if_pos hz, W_zero]
    · rw [if_neg hz, neg_zero_decode, W_zero]; rfl
end Fl
namespace Fl
open Ieee Go

theorem neg_nat {n : Nat} (h0 : n ≠ 0) (hn : n < 9007199254740992) : Go.Op.negFloat .f64 (W n) = W (-(n : Int)) := neg_W (by omega) (by omega)

theorem key_neg_nat {n : Nat} (h0 : n ≠ 0) (hn : n < 9007199254740992) : key (W (-(n : Int))) = - key (W n) ∧ isN (W (-(n : Int))) = false ∧ W (-(n : Int)) < 18446744073709551616 := by
  obtain ⟨r, e, h1, h2, _⟩ := rung_W hn
  have hh : W (-(n : Int)) = D.word true r := by
    rw [← neg_nat h0 hn, e]
    exact neg_word false (by omega)
  rw [hh, h2, key_word _ (by omega)]
  exact ⟨rfl, isN_word _ (by omega), word_lt2 _ (by omega)⟩

theorem tn_ge {x : Nat} (hx : x < 18446744073709551616) (hN : isN x = false) {n : Nat} (hn : n < 9007199254740992) : n ≤ tn x ↔ key (W n) ≤ ((x % 9223372036854775808 : Nat) : Int) := by
  by_cases h : x % 9223372036854775808 ≤ 4845873199050653695
  · exact (tn_small hx h).2.2.2.2 n hn
  · obtain ⟨e, _⟩ := tn_big hx h hN
    have := (key_W_bounds (n := (n : Int)) (by omega)).2
    rw [e]; omega

theorem fle_neg {x : Nat} (hx : x < 18446744073709551616) (hN : isN x = false) (hk : key x < 0) {n : Nat} (h0 : n ≠ 0) (hn : n < 9007199254740992) : fle x (W (-(n : Int))) = decide (n ≤ tn x) := by
  obtain ⟨k1, k2, k3⟩ := key_neg_nat h0 hn
  unfold fle
  rw [hN, k2, k1]
  simp only [Bool.not_false, Bool.true_and]
  rw [decide_eq_decide, tn_ge hx hN hn]
  unfold key at hk ⊢
  split at hk <;> omega

theorem fle_pos {x : Nat} (hx : x < 18446744073709551616) (hN : isN x = false) (hk : ¬ key x < 0) {n : Nat} (hn : n < 9007199254740992) : fle (W n) x = decide (n ≤ tn x) := by
  obtain ⟨h1, h2⟩ := W_nat_lt hn
  unfold fle
  rw [hN, h2]
  simp only [Bool.not_false, Bool.true_and]
  rw [decide_eq_decide, tn_ge hx hN hn]
  have : key x = ((x % 9223372036854775808 : Nat) : Int) := by unfold key at hk ⊢; split at hk <;> omega
  rw [this]

theorem tn_conv {x : Nat} (hx : x < 18446744073709551616) (hN : isN x = false) (h : tn x < 9007199254740992) :
    Go.floatToIntVal .f64 x .i64 = some (if key x < 0 then -((tn x : Nat) : Int) else ((tn x : Nat) : Int)) := by
  by_cases hs : x % 9223372036854775808 ≤ 4845873199050653695
  · obtain ⟨ht, _, e, _, _⟩ := tn_small hx hs
    have hv : sg (decide (9223372036854775808 ≤ x)) (tn x) = if key x < 0 then -((tn x : Nat) : Int) else ((tn x : Nat) : Int) := by
      by_cases hb : 9223372036854775808 ≤ x
      · rw [decide_eq_true hb]
        by_cases hk : key x < 0
        · rw [if_pos hk]; rfl
        · rw [if_neg hk]
          have hx0 : x = 9223372036854775808 := by unfold key at hk; split at hk <;> omega
          subst hx0
          have : tn 9223372036854775808 = 0 := by decide +kernel
          rw [this]; rfl
      · rw [decide_eq_false hb, if_neg (by unfold key; split <;> omega)]; rfl
    rw [← hv]
    have h2 : (Go.FloatKind.f64.decode x).toInt .zero = some (sg (decide (9223372036854775808 ≤ x)) (tn x)) := e
    have hb : -9007199254740992 < sg (decide (9223372036854775808 ≤ x)) (tn x) ∧ sg (decide (9223372036854775808 ≤ x)) (tn x) < 9007199254740992 := by unfold sg; split <;> omega
    generalize sg (decide (9223372036854775808 ≤ x)) (tn x) = n at h2 hb
    unfold Go.floatToIntVal
    rw [h2]
    have h3 : Go.IntKind.i64.min ≤ n := by show (-9223372036854775808 : Int) ≤ n; omega
    have h4 : n ≤ Go.IntKind.i64.max := by show n ≤ (9223372036854775807 : Int); omega
    simp only [h3, h4, and_self, if_true]
  · obtain ⟨e, _⟩ := tn_big hx hs hN
    omega
end Fl
