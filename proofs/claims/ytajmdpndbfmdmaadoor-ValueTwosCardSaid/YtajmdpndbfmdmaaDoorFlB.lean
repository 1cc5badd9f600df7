/-
  Sums, differences and products of floats that are whole numbers below 2^53 are the floats of the exact results. Conditions: each lemma's own hypotheses.
-/
import Derived.Test.YtajmdpndbfmdmaaDoorFlA
namespace Fl
open Ieee

/-- The float of a whole number. -/
def W (n : Int) : Nat := Go.FloatKind.f64.nearest n
theorem W_eq (n : Int) : W n = D.nearest (decide (n < 0)) n.natAbs 0 := rfl

theorem signed_add (s : Bool) (m a b : Nat) : signed s m (a + b) = signed s m a * ((2 ^ b : Nat) : Int) := by
  unfold signed
  simp only [Nat.shiftLeft_eq, Nat.pow_add]
  rw [← Nat.mul_assoc]
  cases s
  · simp only [Bool.false_eq_true, if_false]; exact Int.natCast_mul _ _
  · simp only [if_true]; rw [Int.natCast_mul, Int.neg_mul]

theorem signed_zero (s : Bool) (m : Nat) : signed s m 0 = if s then -(m : Int) else m := by simp [signed]

theorem compare_scale (a b : Int) {c : Int} (hc : 0 < c) : compare (a * c) (b * c) = compare a b := by
  have h1 : a * c < b * c ↔ a < b := ⟨fun h => Int.lt_of_mul_lt_mul_right h (by omega), fun h => Int.mul_lt_mul_of_pos_right h hc⟩
  have h2 : a * c = b * c ↔ a = b := ⟨fun h => Int.eq_of_mul_eq_mul_right (by omega) h, fun h => by rw [h]⟩
  show compareOfLessAndEq _ _ = compareOfLessAndEq _ _
  unfold compareOfLessAndEq
  simp only [h1, h2]

theorem pos_pow (k : Nat) : (0 : Int) < ((2 ^ k : Nat) : Int) := by have := Nat.two_pow_pos k; omega

/-- The scaled worth of a number. -/
def sval (s : Bool) (m : Nat) (i : Int) : Int := signed s m (i + 1074).toNat

theorem order_num (s t : Bool) (m n : Nat) (i j : Int) (hi : -1074 ≤ i) (hj : -1074 ≤ j) :
    Datum.order (.number s m i) (.number t n j) = some (compare (sval s m i) (sval t n j)) := by
  simp only [Datum.order, sval]
  have e1 : (i + 1074).toNat = (i - min i j).toNat + (min i j + 1074).toNat := by omega
  have e2 : (j + 1074).toNat = (j - min i j).toNat + (min i j + 1074).toNat := by omega
  rw [e1, e2, signed_add, signed_add, compare_scale _ _ (pos_pow _)]

theorem signed_pow (s : Bool) (m k d : Nat) : signed s (m * 2 ^ k) d = signed s m (k + d) := by
  simp only [signed, Nat.shiftLeft_eq, Nat.pow_add, Nat.mul_assoc]

/-- The places below the point. -/
def K : Nat := 1074
theorem K_eq : K = 1074 := rfl
theorem sval_small (s : Bool) (m : Nat) {p : Int} (h0 : p ≤ 0) (h1 : -1074 ≤ p) : sval s (m * 2 ^ (-p).toNat) p = signed s m K := by
  unfold sval
  rw [signed_pow, K_eq, show (-p).toNat + (p + 1074).toNat = 1074 from by omega]

/-- What the float of a whole number reads as. -/
theorem read_W {n : Int} (hn : n.natAbs < 9007199254740992) :
    ∃ (k : Nat) (p : Int), D.read (W n) = .number (decide (n < 0)) k p ∧ p ≤ 0 ∧ -1074 ≤ p ∧ k = n.natAbs * 2 ^ (-p).toNat ∧ (n ≠ 0 → k.log2 = 52) := by
  obtain ⟨k, p, a, b, c, d, e⟩ := read_small (decide (n < 0)) hn
  exact ⟨k, p, a, b, c, d, fun h => e (by omega)⟩

theorem signed_natAbs (n : Int) (d : Nat) : signed (decide (n < 0)) n.natAbs d = n * ((2 ^ d : Nat) : Int) := by
  have h := signed_add (decide (n < 0)) n.natAbs 0 d
  rw [Nat.zero_add] at h
  rw [h, signed_zero]
  congr 1
  by_cases h0 : n < 0
  · simp [h0]; omega
  · simp [h0]; omega

theorem order_W {a b : Int} (ha : a.natAbs < 9007199254740992) (hb : b.natAbs < 9007199254740992) : D.order (W a) (W b) = some (compare a b) := by
  obtain ⟨k, p, e1, h0, h1, rfl, _⟩ := read_W ha
  obtain ⟨l, q, e2, h2, h3, rfl, _⟩ := read_W hb
  unfold Format.order
  rw [e1, e2, order_num _ _ _ _ _ _ h1 h3, sval_small _ _ h0 h1, sval_small _ _ h2 h3, signed_natAbs, signed_natAbs, compare_scale _ _ (pos_pow _)]

/-- A sum of two whole numbers: exact, then written. -/
theorem add_W {a b : Int} (ha : a.natAbs < 9007199254740992) (hb : b.natAbs < 9007199254740992) : D.add (W a) (W b) = some (W (a + b)) := by
  obtain ⟨k, p, e1, h0, h1, rfl, _⟩ := read_W ha
  obtain ⟨l, q, e2, h2, h3, rfl, _⟩ := read_W hb
  unfold Format.add
  rw [e1, e2]
  simp only [Datum.sum, Option.map_some]
  rw [signed_pow, signed_pow, show (-p).toNat + (p - min p q).toNat = (-(min p q)).toNat from by omega, show (-q).toNat + (q - min p q).toNat = (-(min p q)).toNat from by omega, signed_natAbs, signed_natAbs, ← Int.add_mul]
  have hb' : min p q ≤ 0 := by omega
  have hc := pos_pow (-(min p q)).toNat
  have hz : (a + b) * ((2 ^ (-(min p q)).toNat : Nat) : Int) = 0 ↔ a + b = 0 := by
    constructor
    · intro h; rcases Int.mul_eq_zero.1 h with h | h <;> omega
    · intro h; rw [h, Int.zero_mul]
  have hl : (a + b) * ((2 ^ (-(min p q)).toNat : Nat) : Int) < 0 ↔ a + b < 0 := by
    constructor
    · intro h; exact Int.lt_of_mul_lt_mul_right (a := ((2 ^ (-(min p q)).toNat : Nat) : Int)) (by rw [Int.zero_mul]; exact h) (by omega)
    · intro h; have := Int.mul_lt_mul_of_pos_right h hc; rwa [Int.zero_mul] at this
  have hs : (if (a + b) * ((2 ^ (-(min p q)).toNat : Nat) : Int) = 0 then (decide (a < 0) && decide (b < 0)) else decide ((a + b) * ((2 ^ (-(min p q)).toNat : Nat) : Int) < 0)) = decide (a + b < 0) := by
    split
    · rename_i h
      have := hz.1 h
      rw [Bool.eq_iff_iff]; simp; omega
    · rw [decide_eq_decide]; exact hl
  rw [hs, Int.natAbs_mul]
  show some (D.nearest _ _ _) = _
  rw [W_eq, Int.natAbs_natCast, nearest_place _ _ _ _ hb']

theorem opposite_W {b : Int} (hb : b.natAbs < 9007199254740992) : ∃ k p, (D.read (W b)).opposite = .number (!decide (b < 0)) k p ∧ p ≤ 0 ∧ -1074 ≤ p ∧ k = b.natAbs * 2 ^ (-p).toNat := by
  obtain ⟨l, q, e2, h2, h3, hk, _⟩ := read_W hb
  exact ⟨l, q, by rw [e2]; rfl, h2, h3, hk⟩

theorem signed_not (s : Bool) (m d : Nat) : signed (!s) m d = - signed s m d := by
  cases s <;> simp [signed]

theorem sub_W {a b : Int} (ha : a.natAbs < 9007199254740992) (hb : b.natAbs < 9007199254740992) : D.sub (W a) (W b) = some (W (a - b)) := by
  obtain ⟨k, p, e1, h0, h1, rfl, _⟩ := read_W ha
  obtain ⟨l, q, e2, h2, h3, rfl⟩ := opposite_W hb
  unfold Format.sub
  rw [e1, e2]
  simp only [Datum.sum, Option.map_some]
  rw [signed_not, signed_pow, signed_pow, show (-p).toNat + (p - min p q).toNat = (-(min p q)).toNat from by omega, show (-q).toNat + (q - min p q).toNat = (-(min p q)).toNat from by omega, signed_natAbs, signed_natAbs, ← Int.sub_eq_add_neg, ← Int.sub_mul]
  have hb' : min p q ≤ 0 := by omega
  have hc := pos_pow (-(min p q)).toNat
  have hz : (a - b) * ((2 ^ (-(min p q)).toNat : Nat) : Int) = 0 ↔ a - b = 0 := by
    constructor
    · intro h; rcases Int.mul_eq_zero.1 h with h | h <;> omega
    · intro h; rw [h, Int.zero_mul]
  have hl : (a - b) * ((2 ^ (-(min p q)).toNat : Nat) : Int) < 0 ↔ a - b < 0 := by
    constructor
    · intro h; exact Int.lt_of_mul_lt_mul_right (a := ((2 ^ (-(min p q)).toNat : Nat) : Int)) (by rw [Int.zero_mul]; exact h) (by omega)
    · intro h; have := Int.mul_lt_mul_of_pos_right h hc; rwa [Int.zero_mul] at this
  have hs : (if (a - b) * ((2 ^ (-(min p q)).toNat : Nat) : Int) = 0 then (decide (a < 0) && !decide (b < 0)) else decide ((a - b) * ((2 ^ (-(min p q)).toNat : Nat) : Int) < 0)) = decide (a - b < 0) := by
    split
    · rename_i h
      have := hz.1 h
      rw [Bool.eq_iff_iff]; simp; omega
    · rw [decide_eq_decide]; exact hl
  rw [hs, Int.natAbs_mul]
  show some (D.nearest _ _ _) = _
  rw [W_eq, Int.natAbs_natCast, nearest_place _ _ _ _ hb']

/-- A product: exact, then written; the sign of a nought is the factors'. -/
theorem mul_W {a b : Int} (ha : a.natAbs < 9007199254740992) (hb : b.natAbs < 9007199254740992) :
    D.mul (W a) (W b) = some (if a * b = 0 then (if a < 0 ∨ b < 0 then 9223372036854775808 else W 0) else W (a * b)) := by
  obtain ⟨k, p, e1, h0, h1, rfl, _⟩ := read_W ha
  obtain ⟨l, q, e2, h2, h3, rfl, _⟩ := read_W hb
  unfold Format.mul
  rw [e1, e2]
  simp only [Datum.product, Option.map_some]
  congr 1
  have e : a.natAbs * 2 ^ (-p).toNat * (b.natAbs * 2 ^ (-q).toNat) = (a * b).natAbs * 2 ^ (-(p + q)).toNat := by
    rw [Int.natAbs_mul, show (-(p + q)).toNat = (-p).toNat + (-q).toNat from by omega, Nat.pow_add]
    ac_rfl
  show D.nearest _ _ _ = _
  rw [e, nearest_place _ _ _ _ (by omega)]
  by_cases hz : a * b = 0
  · rw [if_pos hz, hz]
    have hz' := Int.mul_eq_zero.1 hz
    by_cases hn : a < 0 ∨ b < 0
    · rw [if_pos hn]
      have : (decide (a < 0) ^^ decide (b < 0)) = true := by
        rcases hn with h | h
        · have : b = 0 := by omega
          subst this; simp [h]
        · have : a = 0 := by omega
          subst this; simp [h]
      rw [this]; decide
    · rw [if_neg hn]
      have : (decide (a < 0) ^^ decide (b < 0)) = false := by
        have x : ¬ a < 0 := fun h => hn (.inl h)
        have y : ¬ b < 0 := fun h => hn (.inr h)
        simp [x, y]
      rw [this]; rfl
  · rw [if_neg hz, W_eq]
    congr 1
    have ha0 : a ≠ 0 := fun h => hz (by rw [h, Int.zero_mul])
    have hb0 : b ≠ 0 := fun h => hz (by rw [h, Int.mul_zero])
    rcases Int.lt_or_gt_of_ne ha0 with h | h <;> rcases Int.lt_or_gt_of_ne hb0 with h' | h'
    · have := Int.mul_pos_of_neg_of_neg h h'
      simp [h, h', show ¬ a * b < 0 from by omega]
    · have := Int.mul_neg_of_neg_of_pos h h'
      simp [h, show ¬ b < 0 from by omega, this]
    · have := Int.mul_neg_of_pos_of_neg h h'
      simp [h', show ¬ a < 0 from by omega, this]
    · have := Int.mul_pos h h'
      simp [show ¬ a < 0 from by omega, show ¬ b < 0 from by omega, show ¬ a * b < 0 from by omega]
end Fl
