/-
  Any two words compare as their places do, and which floats are whole numbers below 2^53. Conditions: each lemma's own hypotheses.
-/
import Derived.Test.YtajmdpndbfmdmaaDoorFlC
namespace Fl
open Ieee

/-- A rung's scaled worth. -/
def rv (r : Nat) : Nat := if r < 4503599627370496 then r else (4503599627370496 + r % 4503599627370496) * 2 ^ (r / 4503599627370496 - 1)

theorem rv_lt {a b : Nat} (h : a < b) : rv a < rv b := by
  unfold rv
  by_cases ha : a < 4503599627370496
  · rw [if_pos ha]
    by_cases hb : b < 4503599627370496
    · rw [if_pos hb]; exact h
    · rw [if_neg hb]
      have : (4503599627370496 + b % 4503599627370496) * 1 ≤ (4503599627370496 + b % 4503599627370496) * 2 ^ (b / 4503599627370496 - 1) := Nat.mul_le_mul_left _ (Nat.two_pow_pos _)
      omega
  · rw [if_neg ha, if_neg (by omega)]
    by_cases hq : a / 4503599627370496 = b / 4503599627370496
    · rw [hq]
      exact Nat.mul_lt_mul_of_pos_right (by omega) (Nat.two_pow_pos _)
    · have hlt : a / 4503599627370496 < b / 4503599627370496 := by omega
      have h1 : (4503599627370496 + a % 4503599627370496) * 2 ^ (a / 4503599627370496 - 1) < (4503599627370496 * 2) * 2 ^ (a / 4503599627370496 - 1) := Nat.mul_lt_mul_of_pos_right (by omega) (Nat.two_pow_pos _)
      have h2 : (4503599627370496 * 2) * 2 ^ (a / 4503599627370496 - 1) = 4503599627370496 * 2 ^ (a / 4503599627370496) := by
        rw [Nat.mul_assoc, ← Nat.pow_succ', show (a / 4503599627370496 - 1).succ = a / 4503599627370496 from by omega]
      have h3 : 2 ^ (a / 4503599627370496) ≤ 2 ^ (b / 4503599627370496 - 1) := Nat.pow_le_pow_right (by decide) (by omega)
      have h4 : 4503599627370496 * 2 ^ (a / 4503599627370496) ≤ 4503599627370496 * 2 ^ (b / 4503599627370496 - 1) := Nat.mul_le_mul_left _ h3
      have h5 : 4503599627370496 * 2 ^ (b / 4503599627370496 - 1) ≤ (4503599627370496 + b % 4503599627370496) * 2 ^ (b / 4503599627370496 - 1) := Nat.mul_le_mul_right _ (by omega)
      omega

theorem rv_zero : rv 0 = 0 := by decide
theorem rv_lt_iff {a b : Nat} : rv a < rv b ↔ a < b := by
  constructor
  · intro h
    rcases Nat.lt_trichotomy a b with h' | h' | h'
    · exact h'
    · subst h'; omega
    · have := rv_lt h'; omega
  · exact rv_lt

/-- A sign and a size. -/
def sg (s : Bool) (r : Nat) : Int := if s then -(r : Int) else r

theorem compare_eq (a b c d : Int) (h1 : a < b ↔ c < d) (h2 : a = b ↔ c = d) : compare a b = compare c d := by
  show compareOfLessAndEq _ _ = compareOfLessAndEq _ _
  unfold compareOfLessAndEq
  simp only [h1, h2]

theorem compare_rv (s t : Bool) (a b : Nat) : compare (sg s (rv a)) (sg t (rv b)) = compare (sg s a) (sg t b) := by
  have x1 := @rv_lt_iff a b
  have x2 := @rv_lt_iff b a
  have y1 := @rv_lt_iff 0 a
  have y2 := @rv_lt_iff 0 b
  rw [rv_zero] at y1 y2
  refine compare_eq _ _ _ _ ?_ ?_
  · unfold sg; cases s <;> cases t <;> simp only [Bool.false_eq_true, if_false, if_true] <;> omega
  · unfold sg; cases s <;> cases t <;> simp only [Bool.false_eq_true, if_false, if_true] <;> omega

theorem sval_read (s : Bool) (m : Nat) (k : Nat) : sval s m (-1074 + (k : Int)) = sg s (m * 2 ^ k) := by
  unfold sval sg signed
  rw [show (-1074 + (k : Int) + 1074).toNat = k from by omega, Nat.shiftLeft_eq]

/-- Number or infinity. -/
theorem read_cases (s : Bool) {r : Nat} (h : r ≤ 9218868437227405312) :
    (r < 9218868437227405312 ∧ ∃ m k : Nat, D.read (D.word s r) = .number s m (-1074 + (k : Int)) ∧ m * 2 ^ k = rv r ∧ m < 9007199254740992 ∧ (r ≤ 4845873199050653695 → k ≤ 1074)) ∨ (r = 9218868437227405312 ∧ D.read (D.word s r) = .infinity s) := by
  rw [read_word s (by omega)]
  by_cases h1 : r < 4503599627370496
  · exact .inl ⟨by omega, r, 0, by rw [if_pos h1]; rfl, by simp [rv, h1], by omega, by omega⟩
  · by_cases h2 : r < 9218868437227405312
    · exact .inl ⟨h2, 4503599627370496 + r % 4503599627370496, r / 4503599627370496 - 1, by rw [if_neg h1, if_pos h2], by simp [rv, h1], by omega, by omega⟩
    · exact .inr ⟨by omega, by rw [if_neg h1, if_neg h2, if_pos (by omega)]⟩

theorem sg_inj (s : Bool) {a b : Nat} (h : sg s a = sg s b) : a = b := by unfold sg at h; cases s <;> simp at h <;> omega

theorem order_words (s t : Bool) {a b : Nat} (ha : a ≤ 9218868437227405312) (hb : b ≤ 9218868437227405312) :
    D.order (D.word s a) (D.word t b) = some (compare (sg s a) (sg t b)) := by
  unfold Format.order
  rcases read_cases s ha with ⟨h1, m, k, e1, v1, _⟩ | ⟨h1, e1⟩ <;> rcases read_cases t hb with ⟨h2, n, l, e2, v2, _⟩ | ⟨h2, e2⟩
  · rw [e1, e2, order_num _ _ _ _ _ _ (by omega) (by omega), sval_read, sval_read, v1, v2, compare_rv]
  · rw [e1, e2]
    have e : compare (sg s a) (sg t b) = if t then .gt else .lt := by
      show compareOfLessAndEq _ _ = _
      unfold compareOfLessAndEq sg
      cases s <;> cases t <;> simp only [Bool.false_eq_true, if_false, if_true]
      · rw [if_pos (by omega)]
      · rw [if_neg (by omega), if_neg (by omega)]
      · rw [if_pos (by omega)]
      · rw [if_neg (by omega), if_neg (by omega)]
    rw [e]; rfl
  · rw [e1, e2]
    have e : compare (sg s a) (sg t b) = if s then .lt else .gt := by
      show compareOfLessAndEq _ _ = _
      unfold compareOfLessAndEq sg
      cases s <;> cases t <;> simp only [Bool.false_eq_true, if_false, if_true]
      · rw [if_neg (by omega), if_neg (by omega)]
      · rw [if_neg (by omega), if_neg (by omega)]
      · rw [if_pos (by omega)]
      · rw [if_pos (by omega)]
    rw [e]; rfl
  · rw [e1, e2]
    subst h1 h2
    cases s <;> cases t <;> decide

/-- Which place a word has among the others (of what is no NaN). -/
def key (b : Nat) : Int := if b < 9223372036854775808 then (b : Int) else -((b : Int) - 9223372036854775808)

/-- Is a word no number? -/
def isN (b : Nat) : Bool := decide (9218868437227405312 < b % 9223372036854775808)

theorem as_word {b : Nat} (h : b < 18446744073709551616) : ∃ (s : Bool) (r : Nat), b = D.word s r ∧ r < 9223372036854775808 ∧ r = b % 9223372036854775808 ∧ s = decide (9223372036854775808 ≤ b) ∧ key b = sg s r := by
  by_cases hb : b < 9223372036854775808
  · exact ⟨false, b, by simp [Format.word], hb, by omega, by simp; omega, by simp [key, hb, sg]⟩
  · refine ⟨true, b - 9223372036854775808, ?_, by omega, by omega, by simp; omega, ?_⟩
    · simp only [Format.word, D_sw, if_true]; omega
    · simp only [key, hb, sg, if_false, if_true]; omega

theorem isN_read {b : Nat} (h : b < 18446744073709551616) : (D.read b).isNaN = isN b := by
  obtain ⟨s, r, rfl, hr, hm, _, _⟩ := as_word h
  unfold isN
  rw [← hm]
  by_cases h2 : r ≤ 9218868437227405312
  · rw [decide_eq_false (by omega)]
    rcases read_cases s h2 with ⟨h1, m, k, e1, v1, _⟩ | ⟨h1, e1⟩
    · rw [e1]; rfl
    · rw [e1]; rfl
  · rw [decide_eq_true (by omega), read_word s hr, if_neg (by omega), if_neg (by omega), if_neg (by omega)]; rfl

theorem order_key {x y : Nat} (hx : x < 18446744073709551616) (hy : y < 18446744073709551616) :
    D.order x y = if isN x || isN y then none else some (compare (key x) (key y)) := by
  have nx := isN_read hx
  have ny := isN_read hy
  obtain ⟨s, a, ex, ha, hma, _, kx⟩ := as_word hx
  obtain ⟨t, b, ey, hb, hmb, _, ky⟩ := as_word hy
  by_cases h : (isN x || isN y) = true
  · rw [if_pos h]
    unfold Format.order
    rcases Bool.or_eq_true _ _ ▸ h with h | h
    · rw [h] at nx
      cases hd : D.read x with
      | nan => rfl
      | number => rw [hd] at nx; cases nx
      | infinity => rw [hd] at nx; cases nx
    · rw [h] at ny
      cases hd : D.read y with
      | nan => cases D.read x <;> rfl
      | number => rw [hd] at ny; cases ny
      | infinity => rw [hd] at ny; cases ny
  · rw [if_neg h]
    obtain ⟨h1, h2⟩ : isN x = false ∧ isN y = false := by
      rw [Bool.not_eq_true, Bool.or_eq_false_iff] at h; exact h
    unfold isN at h1 h2
    have h1' := of_decide_eq_false h1
    have h2' := of_decide_eq_false h2
    rw [kx, ky, ex, ey, order_words s t (by omega) (by omega)]

theorem key_inj {x y : Nat} (hx : x < 18446744073709551616) (hy : y < 18446744073709551616) (h : key x = key y) (h0 : key x ≠ 0) : x = y := by
  unfold key at *
  split at h <;> split at h <;> simp_all <;> omega

theorem key_zero {x : Nat} (hx : x < 18446744073709551616) : key x = 0 ↔ x = 0 ∨ x = 9223372036854775808 := by
  unfold key; split <;> omega

theorem compare_lt {a b : Int} : compare a b = .lt ↔ a < b := by
  show compareOfLessAndEq _ _ = _ ↔ _
  unfold compareOfLessAndEq
  split
  · simp_all
  · split <;> simp_all
theorem compare_eqq {a b : Int} : compare a b = .eq ↔ a = b := by
  show compareOfLessAndEq _ _ = _ ↔ _
  unfold compareOfLessAndEq
  split
  · simp; omega
  · split <;> simp_all
theorem compare_gt {a b : Int} : compare a b = .gt ↔ b < a := by
  show compareOfLessAndEq _ _ = _ ↔ _
  unfold compareOfLessAndEq
  split
  · simp; omega
  · split
    · simp; omega
    · simp; omega

/-- The places of whole numbers are as the numbers. -/
theorem isN_W {n : Int} (hn : n.natAbs < 9007199254740992) : isN (W n) = false := by
  rw [← isN_read (W_lt hn), isNaN_W hn]

theorem key_W_compare {a b : Int} (ha : a.natAbs < 9007199254740992) (hb : b.natAbs < 9007199254740992) : compare (key (W a)) (key (W b)) = compare a b := by
  have h := order_W ha hb
  rw [order_key (W_lt ha) (W_lt hb), isN_W ha, isN_W hb] at h
  exact Option.some.inj h

theorem key_W_lt {a b : Int} (ha : a.natAbs < 9007199254740992) (hb : b.natAbs < 9007199254740992) : key (W a) < key (W b) ↔ a < b := by
  rw [← compare_lt, key_W_compare ha hb, compare_lt]
theorem key_W_eq {a b : Int} (ha : a.natAbs < 9007199254740992) (hb : b.natAbs < 9007199254740992) : key (W a) = key (W b) ↔ a = b := by
  rw [← compare_eqq, key_W_compare ha hb, compare_eqq]
theorem W_inj {a b : Int} (ha : a.natAbs < 9007199254740992) (hb : b.natAbs < 9007199254740992) (h : W a = W b) : a = b := (key_W_eq ha hb).1 (by rw [h])

theorem key_W_zero : key (W 0) = 0 := by rw [W_zero]; decide
theorem W_safe : W 9007199254740991 = 4845873199050653695 := by decide +kernel
theorem W_nsafe : W (-9007199254740991) = 14069245235905429503 := by decide +kernel
theorem key_safe : key (W 9007199254740991) = 4845873199050653695 := by rw [W_safe]; decide
theorem key_nsafe : key (W (-9007199254740991)) = -4845873199050653695 := by rw [W_nsafe]; decide

/-- A whole number that a float has, if it is one of ours. -/
def num? (b : Nat) : Option Int :=
  match (D.read b).toInt .zero with
  | some n => if n.natAbs < 9007199254740992 ∧ W n = b then some n else none
  | none => none

theorem num?_some {b : Nat} {n : Int} : num? b = some n ↔ n.natAbs < 9007199254740992 ∧ b = W n := by
  unfold num?
  constructor
  · intro h
    split at h
    · split at h
      · rename_i hc; cases h; exact ⟨hc.1, hc.2.symm⟩
      · cases h
    · cases h
  · rintro ⟨h1, rfl⟩
    simp [toInt_W h1, h1]

theorem num?_W {n : Int} (hn : n.natAbs < 9007199254740992) : num? (W n) = some n := num?_some.2 ⟨hn, rfl⟩

/-- Is a float one of our numbers? -/
def may (b : Nat) : Bool := isN b || (num? b).isSome

theorem cut_floor (s : Bool) (n d : Nat) : Toward.zero.cut s n d = n / 2 ^ d := by
  simp only [Toward.cut, Bool.toNat_false, Nat.add_zero, Nat.shiftLeft_eq, Nat.one_mul]
  by_cases h : d ≤ n.log2 + 2
  · rw [Nat.min_eq_left h]
  · rw [Nat.min_eq_right (by omega)]
    have h2 := Nat.lt_log2_self (n := n)
    have h3 : 2 ^ (n.log2 + 1) ≤ 2 ^ (n.log2 + 2) := Nat.pow_le_pow_right (by decide) (by omega)
    have h4 : 2 ^ (n.log2 + 1) ≤ 2 ^ d := Nat.pow_le_pow_right (by decide) (by omega)
    rw [Nat.div_eq_of_lt (by omega), Nat.div_eq_of_lt (by omega)]

/-- What is no greater than the greatest of ours, cut. -/
theorem cut_small {b : Nat} (hb : b < 18446744073709551616) (h1 : -4845873199050653695 ≤ key b) (h2 : key b ≤ 4845873199050653695) :
    isN b = false ∧ ∃ t : Nat, t < 9007199254740992 ∧ (D.read b).integral .zero = .number (decide (9223372036854775808 ≤ b)) t 0 ∧
      (D.read b).toInt .zero = some (sg (decide (9223372036854775808 ≤ b)) t) := by
  obtain ⟨s, r, e, hr, hm, hs, hk⟩ := as_word hb
  have hr2 : r ≤ 4845873199050653695 := by rw [hk] at h1 h2; unfold sg at h1 h2; cases s <;> simp at h1 h2 <;> omega
  refine ⟨by unfold isN; rw [← hm]; exact decide_eq_false (by omega), ?_⟩
  rcases read_cases s (r := r) (by omega) with ⟨_, m, k, e1, v1, hm1, hk1⟩ | ⟨h', _⟩
  · have hk2 := hk1 hr2
    rw [← e] at e1
    rw [e1, ← hs]
    simp only [Datum.integral, Datum.toInt]
    rw [cut_floor]
    refine ⟨_, ?_, rfl, ?_⟩
    · rw [show (-1074 + (k : Int)).toNat = 0 from by omega, Nat.shiftLeft_zero]
      exact Nat.lt_of_le_of_lt (Nat.div_le_self _ _) hm1
    · simp only [signed_zero]; rfl
  · omega

theorem W_sg (s : Bool) {t : Nat} (h : t ≠ 0) : D.nearest s t 0 = W (sg s t) := by
  rw [W_eq]
  unfold sg
  cases s
  · simp only [Bool.false_eq_true, if_false, Int.natAbs_natCast]; rw [decide_eq_false (by omega)]
  · simp only [if_true, Int.natAbs_neg, Int.natAbs_natCast]; rw [decide_eq_true (by omega)]

theorem key_W_bounds {n : Int} (hn : n.natAbs < 9007199254740992) : -4845873199050653695 ≤ key (W n) ∧ key (W n) ≤ 4845873199050653695 := by
  constructor
  · rw [← key_nsafe]
    apply Int.not_lt.1; intro h
    have := (key_W_lt hn (by decide)).1 h
    omega
  · rw [← key_safe]
    apply Int.not_lt.1; intro h
    have := (key_W_lt (by decide) hn).1 h
    omega

/-- The greater whole numbers' floats are none of ours. -/
theorem nearest_big (s : Bool) {m : Nat} (h : 9007199254740992 ≤ m) : ∃ r, D.nearest s m 0 = D.word s r ∧ 4845873199050653695 < r ∧ r ≤ 9218868437227405312 := by
  have h0 : m ≠ 0 := by omega
  have hl : 53 ≤ m.log2 := (Nat.le_log2 h0).2 h
  unfold Format.nearest
  rw [if_neg h0, D_lp, D_fb, D_bin, D_inf]
  have e : max ((0 : Int) + (m.log2 : Int) - ((52 : Nat) : Int)) (-1074) = (m.log2 : Int) - 52 := by omega
  simp only [e]
  have a : ((0 : Int) - ((m.log2 : Int) - 52)).toNat = 0 := by omega
  have b : (((m.log2 : Int) - 52) - 0).toNat = m.log2 - 52 := by omega
  have c : (((m.log2 : Int) - 52) - -1074).toNat = m.log2 + 1022 := by omega
  rw [a, b, c, Nat.shiftLeft_zero]
  have hk : 4503599627370496 ≤ Toward.even.cut s m (m.log2 - 52) := by
    simp only [Toward.cut]
    rw [Nat.min_eq_left (by omega), Nat.shiftLeft_eq, Nat.one_mul]
    have h1 := Nat.log2_self_le h0
    have h2 : 2 ^ m.log2 = 4503599627370496 * 2 ^ (m.log2 - 52) := by
      rw [show (4503599627370496 : Nat) = 2 ^ 52 from by decide, ← Nat.pow_add]; congr 1; omega
    have h3 : 4503599627370496 ≤ m / 2 ^ (m.log2 - 52) := (Nat.le_div_iff_mul_le (Nat.two_pow_pos _)).2 (by omega)
    omega
  exact ⟨_, rfl, by omega, by omega⟩

theorem word_lt2 (s : Bool) {r : Nat} (h : r < 9223372036854775808) : D.word s r < 18446744073709551616 := by
  unfold Format.word; rw [D_sw]; split <;> omega

theorem key_word (s : Bool) {r : Nat} (h : r < 9223372036854775808) : key (D.word s r) = sg s r := by
  unfold Format.word key sg
  rw [D_sw]
  cases s <;> simp <;> omega

theorem isN_word (s : Bool) {r : Nat} (h : r ≤ 9218868437227405312) : isN (D.word s r) = false := by
  unfold Format.word isN
  rw [D_sw]
  cases s <;> simp <;> omega

theorem W_big {n : Int} (h : 9007199254740992 ≤ n.natAbs) : W n < 18446744073709551616 ∧ isN (W n) = false ∧ num? (W n) = none ∧ (0 < n → 4845873199050653695 < key (W n)) ∧ (n < 0 → key (W n) < -4845873199050653695) := by
  obtain ⟨r, e, h1, h2⟩ := nearest_big (decide (n < 0)) h
  have hk := key_word (decide (n < 0)) (r := r) (by omega)
  rw [← e, ← W_eq] at hk
  refine ⟨by rw [W_eq, e]; exact word_lt2 _ (by omega), by rw [W_eq, e]; exact isN_word _ h2, ?_, ?_, ?_⟩
  · cases hn : num? (W n) with
    | none => rfl
    | some k =>
      obtain ⟨hk1, hk2⟩ := num?_some.1 hn
      have := key_W_bounds hk1
      rw [← hk2, hk] at this
      unfold sg at this
      split at this <;> omega
  · intro hp; rw [hk]; unfold sg; rw [decide_eq_false (by omega)]; simp; omega
  · intro hp; rw [hk]; unfold sg; rw [decide_eq_true hp]; simp; omega

theorem num?_none_zero : num? 9223372036854775808 = none := by decide +kernel

theorem num?_inf (s : Bool) : num? (D.word s 9218868437227405312) = none := by cases s <;> decide +kernel
theorem isN_inf (s : Bool) : isN (D.word s 9218868437227405312) = false := by cases s <;> decide +kernel

/-- A float that is cut to itself, no greater than the greatest of ours, and no minus nought, is a whole number's. -/
theorem num?_iff {b : Nat} (hb : b < 18446744073709551616) (h1 : -4845873199050653695 ≤ key b) (h2 : key b ≤ 4845873199050653695) :
    ∃ n : Int, n.natAbs < 9007199254740992 ∧ (D.read b).toInt .zero = some n ∧
      D.write ((D.read b).integral .zero) < 18446744073709551616 ∧ isN (D.write ((D.read b).integral .zero)) = false ∧
      (key (D.write ((D.read b).integral .zero)) = key (W n)) ∧
      (num? b = if key (W n) = key b ∧ b ≠ 9223372036854775808 then some n else none) := by
  obtain ⟨hN, t, ht, e1, e2⟩ := cut_small hb h1 h2
  have hsg : (sg (decide (9223372036854775808 ≤ b)) t).natAbs < 9007199254740992 := by unfold sg; split <;> omega
  refine ⟨_, hsg, e2, ?_⟩
  rw [e1]
  have hw : D.write (.number (decide (9223372036854775808 ≤ b)) t 0) = D.nearest (decide (9223372036854775808 ≤ b)) t 0 := rfl
  rw [hw]
  have part : num? b = if key (W (sg (decide (9223372036854775808 ≤ b)) t)) = key b ∧ b ≠ 9223372036854775808 then some (sg (decide (9223372036854775808 ≤ b)) t) else none := by
    unfold num?
    rw [e2]
    simp only
    by_cases hc : key (W (sg (decide (9223372036854775808 ≤ b)) t)) = key b ∧ b ≠ 9223372036854775808
    · have hWb : W (sg (decide (9223372036854775808 ≤ b)) t) = b := by
        by_cases hz : key b = 0
        · have hb0 : b = 0 := by
            rcases (key_zero hb).1 hz with h | h
            · exact h
            · exact absurd h hc.2
          have hn0 := (key_W_eq hsg (b := 0) (by decide)).1 (by rw [hc.1, hz, key_W_zero])
          rw [hn0, hb0, W_zero]
        · exact key_inj (W_lt hsg) hb hc.1 (by rw [hc.1]; exact hz)
      rw [if_pos hc, if_pos ⟨hsg, hWb⟩]
    · rw [if_neg hc, if_neg]
      rintro ⟨_, h⟩
      apply hc
      rw [h]
      refine ⟨rfl, ?_⟩
      rintro rfl
      have := num?_W hsg
      rw [h, num?_none_zero] at this
      cases this
  by_cases h0 : t = 0
  · subst h0
    have : D.nearest (decide (9223372036854775808 ≤ b)) 0 0 = D.word (decide (9223372036854775808 ≤ b)) 0 := by simp [Format.nearest]
    rw [this]
    refine ⟨word_lt2 _ (by omega), isN_word _ (by omega), ?_, part⟩
    rw [key_word _ (by omega)]
    have : ∀ s, sg s 0 = 0 := by intro s; cases s <;> rfl
    rw [this]
    exact key_W_zero.symm
  · rw [W_sg _ h0]
    exact ⟨W_lt hsg, isN_W hsg, rfl, part⟩
end Fl
