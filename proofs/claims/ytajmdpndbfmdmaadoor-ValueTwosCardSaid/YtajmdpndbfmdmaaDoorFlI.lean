/-
  The place of a float in a string: cutting, the least and the greatest of two floats, and the sum with what is great. Conditions: each lemma's own hypotheses.
-/
import Derived.Test.YtajmdpndbfmdmaaDoorFlG
import GoSem.Builtin.Min
import GoSem.Builtin.Max
namespace Fl
open Ieee Go

theorem nearest_word (s : Bool) (m : Nat) (p : Int) : ∃ r, D.nearest s m p = D.word s r ∧ r ≤ 9218868437227405312 := by
  unfold Format.nearest
  rw [D_inf]
  by_cases h : m = 0
  · rw [if_pos h]; exact ⟨0, rfl, by omega⟩
  · rw [if_neg h]
    exact ⟨_, rfl, Nat.min_le_right _ _⟩

/-- The rung of a whole number's float, its worth. -/
theorem rung_W {n : Nat} (hn : n < 9007199254740992) : ∃ r, W n = D.word false r ∧ r ≤ 4845873199050653695 ∧ key (W n) = r ∧ rv r = n * 2 ^ 1074 := by
  have hn' : ((n : Int)).natAbs < 9007199254740992 := by simpa using hn
  obtain ⟨s, r, e, hr, hm, hs, hk⟩ := as_word (W_lt hn')
  obtain ⟨k1, k2⟩ := key_W_bounds hn'
  have hs0 : s = false := by
    cases s with
    | false => rfl
    | true =>
      have h0 : 0 ≤ key (W (n : Int)) := by
        rw [← key_W_zero]
        apply Int.not_lt.1; intro h
        have := (key_W_lt hn' (b := 0) (by decide)).1 h
        omega
      obtain ⟨K, p, e1, _, _, _, _⟩ := read_W hn'
      have hge : 9223372036854775808 ≤ W (n : Int) := by simpa using hs
      have hd : decide ((n : Int) < 0) = false := by simp
      have := read_word true (r := r) hr
      rw [← e, e1, hd] at this
      split at this
      · cases this
      · split at this
        · cases this
        · split at this <;> cases this
  subst hs0
  have hkr : key (W (n : Int)) = (r : Int) := by rw [hk]; rfl
  refine ⟨r, e, by omega, hkr, ?_⟩
  obtain ⟨K, p, e1, h0, h1, hK, _⟩ := read_W hn'
  rcases read_cases false (r := r) (by omega) with ⟨_, m, k, e2, v1, hm1, hk1⟩ | ⟨h', _⟩
  · rw [← e, e1] at e2
    injection e2 with _ h3 h4
    subst h3
    rw [← v1, hK, show k = (p + 1074).toNat from by omega, Int.natAbs_natCast, Nat.mul_assoc, ← Nat.pow_add]
    congr 2; omega
  · omega

/-- How far from nought a float stands, cut; what is too great for ours is 2^53. -/
def tn (x : Nat) : Nat := if x % 9223372036854775808 ≤ 4845873199050653695 then (((D.read x).toInt .zero).getD 0).natAbs else 9007199254740992

theorem tn_small {x : Nat} (hx : x < 18446744073709551616) (h : x % 9223372036854775808 ≤ 4845873199050653695) :
    tn x < 9007199254740992 ∧ isN x = false ∧ (D.read x).toInt .zero = some (sg (decide (9223372036854775808 ≤ x)) (tn x)) ∧ tr x = D.nearest (decide (9223372036854775808 ≤ x)) (tn x) 0 ∧
    ∀ n : Nat, n < 9007199254740992 → (n ≤ tn x ↔ key (W n) ≤ ((x % 9223372036854775808 : Nat) : Int)) := by
  have hb := (key_abs hx).1 (by omega)
  obtain ⟨hN, t, ht, e1, e2⟩ := cut_small hx hb.1 hb.2
  have hsg : (sg (decide (9223372036854775808 ≤ x)) t).natAbs = t := by unfold sg; split <;> omega
  have htn : tn x = t := by unfold tn; rw [if_pos h, e2]; exact hsg
  rw [htn]
  refine ⟨ht, hN, e2, ?_, ?_⟩
  · unfold tr; rw [e1]; rfl
  · intro n hn
    obtain ⟨s, r, e, hr, hm, hs, hk⟩ := as_word hx
    obtain ⟨rn, _, _, hkn, hvn⟩ := rung_W hn
    rw [hkn, ← hm]
    rcases read_cases s (r := r) (by omega) with ⟨_, m, k, e3, v1, hm1, hk1⟩ | ⟨h', _⟩
    · have hk2 := hk1 (by omega)
      rw [← e] at e3
      rw [e3] at e1
      simp only [Datum.integral] at e1
      injection e1 with _ e4
      rw [cut_floor, show (-1074 + (k : Int)).toNat = 0 from by omega, Nat.shiftLeft_zero, show (-(-1074 + (k : Int))).toNat = 1074 - k from by omega] at e4
      rw [← e4, Nat.le_div_iff_mul_le (Nat.two_pow_pos _)]
      have h1 : (n * 2 ^ (1074 - k) ≤ m) ↔ rv rn ≤ rv r := by
        rw [hvn, ← v1]
        have : n * 2 ^ 1074 = n * 2 ^ (1074 - k) * 2 ^ k := by rw [Nat.mul_assoc, ← Nat.pow_add]; congr 2; omega
        rw [this]
        exact (Nat.mul_le_mul_right_iff (Nat.two_pow_pos k)).symm
      rw [h1]
      have := @rv_lt_iff r rn
      omega
    · omega

theorem tn_big {x : Nat} (hx : x < 18446744073709551616) (h : ¬ x % 9223372036854775808 ≤ 4845873199050653695) (hN : isN x = false) :
    tn x = 9007199254740992 ∧ ∃ r, tr x = D.word (decide (9223372036854775808 ≤ x)) r ∧ 4845873199050653695 < r ∧ r ≤ 9218868437227405312 := by
  refine ⟨by unfold tn; rw [if_neg h], ?_⟩
  obtain ⟨s, r, e, hr, hm, hs, hk⟩ := as_word hx
  have hr2 : r ≤ 9218868437227405312 := by
    unfold isN at hN; rw [← hm] at hN; simpa using hN
  rw [← hs]
  unfold tr
  show ∃ r, D.write ((D.read x).integral .zero) = _ ∧ _
  rw [e, read_word s hr]
  rw [if_neg (by omega)]
  by_cases h2 : r < 9218868437227405312
  · rw [if_pos h2]
    simp only [Datum.integral]
    rw [cut_floor]
    obtain ⟨j, hj⟩ : ∃ j : Nat, j = r / 4503599627370496 - 1 - 1074 := ⟨_, rfl⟩
    have h3 : 1075 ≤ r / 4503599627370496 - 1 := by omega
    rw [show (-1074 + ((r / 4503599627370496 - 1 : Nat) : Int)).toNat = j from by omega, show (-(-1074 + ((r / 4503599627370496 - 1 : Nat) : Int))).toNat = 0 from by omega, Nat.pow_zero, Nat.div_one, Nat.shiftLeft_eq]
    have hj1 : 1 ≤ j := by omega
    have hp : 2 ^ 1 ≤ 2 ^ j := Nat.pow_le_pow_right (by decide) hj1
    have hmul : 4503599627370496 * 2 ≤ (4503599627370496 + r % 4503599627370496) * 2 ^ j := Nat.mul_le_mul (by omega) (by omega)
    exact nearest_big s (by omega)
  · rw [if_neg h2, if_pos (by omega)]
    exact ⟨9218868437227405312, by simp [Datum.integral, Format.write, D_inf], by omega, by omega⟩

/-- A whole number and a great one below nought: no greater than nought. -/
theorem add_big {n r : Nat} (hn : n < 9007199254740992) (h1 : 4845873199050653695 < r) (h2 : r ≤ 9218868437227405312) :
    ∃ R, floatBits .add .f64 (W n) (D.word true r) = some R ∧ R < 18446744073709551616 ∧ isN R = false ∧ key R ≤ 0 := by
  have hn' : ((n : Int)).natAbs < 9007199254740992 := by simpa using hn
  have fin : ∀ p : Nat, p ≤ 9218868437227405312 → D.word true p < 18446744073709551616 ∧ isN (D.word true p) = false ∧ key (D.word true p) ≤ 0 := by
    intro p hp
    refine ⟨word_lt2 _ (by omega), isN_word _ hp, ?_⟩
    rw [key_word _ (by omega)]; unfold sg; simp
  show ∃ R, D.add (W n) (D.word true r) = some R ∧ _
  unfold Format.add
  obtain ⟨K, p, e1, h0, hp1, hK, _⟩ := read_W hn'
  rw [e1, show decide ((n : Int) < 0) = false from by simp]
  rcases read_cases true (r := r) h2 with ⟨_, m, k, e2, v1, hm1, hk1⟩ | ⟨h', e2⟩
  · rw [e2]
    simp only [Datum.sum, Option.map_some]
    obtain ⟨b, hb⟩ : ∃ b, b = min p (-1074 + (k : Int)) := ⟨_, rfl⟩
    rw [← hb]
    obtain ⟨tot, htot⟩ : ∃ t, t = signed false K (p - b).toNat + signed true m (-1074 + (k : Int) - b).toNat := ⟨_, rfl⟩
    rw [← htot]
    have hneg : tot < 0 := by
      have e3 : tot * ((2 ^ (b + 1074).toNat : Nat) : Int) = signed false K (p + 1074).toNat + signed true m k := by
        rw [htot, Int.add_mul, ← signed_add, ← signed_add]
        congr 2 <;> omega
      have e4 : signed false K (p + 1074).toNat = ((n * 2 ^ 1074 : Nat) : Int) := by
        rw [hK, Int.natAbs_natCast]
        rw [show n * 2 ^ (-p).toNat = n * 2 ^ (-p).toNat from rfl, signed_pow, show (-p).toNat + (p + 1074).toNat = 1074 from by omega]
        unfold signed
        rw [Nat.shiftLeft_eq]; rfl
      have e5 : signed true m k = -((rv r : Nat) : Int) := by
        unfold signed; rw [Nat.shiftLeft_eq, v1]; rfl
      obtain ⟨rn, _, hrn, _, hvn⟩ := rung_W hn
      have hlt : rv rn < rv r := rv_lt (by omega)
      rw [hvn] at hlt
      rw [e4, e5] at e3
      have hc := pos_pow (b + 1074).toNat
      have : tot * ((2 ^ (b + 1074).toNat : Nat) : Int) < 0 := by rw [e3]; omega
      exact Int.lt_of_mul_lt_mul_right (a := ((2 ^ (b + 1074).toNat : Nat) : Int)) (by rw [Int.zero_mul]; exact this) (by omega)
    rw [if_neg (by omega), decide_eq_true hneg]
    obtain ⟨q, hq, hq2⟩ := nearest_word true tot.natAbs b
    exact ⟨D.word true q, by rw [← hq]; rfl, fin q hq2⟩
  · rw [e2]
    exact ⟨_, rfl, by rw [show D.write (.infinity true) = D.word true 9218868437227405312 from by simp [Format.write, D_inf]]; exact fin _ (by omega)⟩

theorem add_nzero {n : Nat} (hn : n < 9007199254740992) : floatBits .add .f64 (W n) 9223372036854775808 = some (W n) := by
  have hn' : ((n : Int)).natAbs < 9007199254740992 := by simpa using hn
  show D.add (W n) 9223372036854775808 = some (W n)
  unfold Format.add
  obtain ⟨K, p, e1, h0, hp1, hK, _⟩ := read_W hn'
  have e2 : D.read 9223372036854775808 = .number true 0 (-1074) := by decide
  rw [e1, e2, show decide ((n : Int) < 0) = false from by simp]
  simp only [Datum.sum, Option.map_some]
  rw [show min p (-1074) = -1074 from by omega]
  have e3 : signed true 0 ((-1074 : Int) - -1074).toNat = 0 := by decide
  rw [e3, Int.add_zero]
  have e4 : signed false K (p - -1074).toNat = ((K * 2 ^ (p + 1074).toNat : Nat) : Int) := by
    unfold signed; rw [Nat.shiftLeft_eq, show (p - -1074).toNat = (p + 1074).toNat from by omega]; rfl
  rw [e4]
  have e5 : (if ((K * 2 ^ (p + 1074).toNat : Nat) : Int) = 0 then (false && true) else decide (((K * 2 ^ (p + 1074).toNat : Nat) : Int) < 0)) = false := by
    split
    · rfl
    · exact decide_eq_false (by omega)
  rw [e5, Int.natAbs_natCast]
  show some (D.nearest false (K * 2 ^ (p + 1074).toNat) (-1074)) = _
  have := nearest_shift D false K (p + 1074).toNat p
  rw [show p - ((p + 1074).toNat : Int) = -1074 from by omega] at this
  rw [this, hK, Int.natAbs_natCast, nearest_place _ _ _ _ h0, W_eq, Int.natAbs_natCast, show decide ((n : Int) < 0) = false from by simp]

/-- The place of a float in a string of n bytes. -/
def placeS (n x : Nat) : Nat := if isN x then 0 else if key x < 0 then n - tn x else min n (tn x)

theorem placeS_le (n x : Nat) : placeS n x ≤ n := by unfold placeS; split <;> (try split) <;> omega

theorem fmin (ts : Array TypeId) (t : TypeId) (x y : Nat) (hx : x < 18446744073709551616) (hy : y < 18446744073709551616) (nx : isN x = false) (ny : isN y = false) (P : Program) (w : World) :
    (Go.Builtin.min_ ts t #[.float .f64 x, .float .f64 y]).run P w = .ok (.float .f64 (if key x < key y then x else if key y < key x then y else if (Go.FloatKind.f64.decode x).neg then x else y)) w := by
  have h : Go.FloatKind.f64.format.order x y = some (compare (key x) (key y)) := by
    show D.order x y = _
    rw [order_key hx hy, nx, ny]; rfl
  simp only [Go.Builtin.min_, List.foldlM, Go.Builtin.min2, h]
  by_cases h1 : key x < key y
  · rw [compare_lt.2 h1, if_pos h1]; rfl
  · rw [if_neg h1]
    by_cases h2 : key y < key x
    · rw [compare_gt.2 h2, if_pos h2]; rfl
    · rw [compare_eqq.2 (by omega), if_neg h2]; rfl

theorem fmax (ts : Array TypeId) (t : TypeId) (x y : Nat) (hx : x < 18446744073709551616) (hy : y < 18446744073709551616) (nx : isN x = false) (ny : isN y = false) (P : Program) (w : World) :
    (Go.Builtin.max_ ts t #[.float .f64 x, .float .f64 y]).run P w = .ok (.float .f64 (if key x < key y then y else if key y < key x then x else if (Go.FloatKind.f64.decode x).neg then y else x)) w := by
  have h : Go.FloatKind.f64.format.order x y = some (compare (key x) (key y)) := by
    show D.order x y = _
    rw [order_key hx hy, nx, ny]; rfl
  simp only [Go.Builtin.max_, List.foldlM, Go.Builtin.max2, h]
  by_cases h1 : key x < key y
  · rw [compare_lt.2 h1, if_pos h1]; rfl
  · rw [if_neg h1]
    by_cases h2 : key y < key x
    · rw [compare_gt.2 h2, if_pos h2]; rfl
    · rw [compare_eqq.2 (by omega), if_neg h2]; rfl

theorem neg_zero_decode : (Go.FloatKind.f64.decode 0).neg = false := by decide +kernel
theorem toIntVal_nzero : Go.floatToIntVal .f64 9223372036854775808 .i64 = some 0 := by decide +kernel

theorem W_nat_lt {n : Nat} (hn : n < 9007199254740992) : W n < 18446744073709551616 ∧ isN (W n) = false := by
  have h : ((n : Int)).natAbs < 9007199254740992 := by simpa using hn
  exact ⟨W_lt h, isN_W h⟩

theorem min_place {n x : Nat} (hn : n < 9007199254740992) (hx : x < 18446744073709551616) (hN : isN x = false) (hk : ¬ key x < 0) :
    isN (tr x) = false ∧ ∃ Z, (∀ ts t P w, (Go.Builtin.min_ ts t #[.float .f64 (W n), .float .f64 (tr x)]).run P w = .ok (.float .f64 Z) w) ∧ Go.floatToIntVal .f64 Z .i64 = some ((placeS n x : Nat) : Int) := by
  have hp : placeS n x = min n (tn x) := by unfold placeS; rw [hN]; simp only [Bool.false_eq_true, if_false]; rw [if_neg hk]
  obtain ⟨hWl, hWn⟩ := W_nat_lt hn
  have hn' : ((n : Int)).natAbs < 9007199254740992 := by simpa using hn
  rw [hp]
  by_cases h : x % 9223372036854775808 ≤ 4845873199050653695
  · obtain ⟨ht, _, _, e2, _⟩ := tn_small hx h
    generalize tn x = t at ht e2 ⊢
    have ht' : ((t : Int)).natAbs < 9007199254740992 := by simpa using ht
    by_cases hs : 9223372036854775808 ≤ x
    · have hx0 : x = 9223372036854775808 := by unfold key at hk; split at hk <;> omega
      have hT : tr x = 9223372036854775808 := by rw [hx0]; decide +kernel
      have ht0 : t = 0 := by
        cases t with
        | zero => rfl
        | succ t =>
          rw [hT, W_sg _ (by omega)] at e2
          exfalso
          have h1 : (sg (decide (9223372036854775808 ≤ x)) (t + 1)).natAbs < 9007199254740992 := by unfold sg; split <;> omega
          have h2 := num?_W h1
          rw [← e2, num?_none_zero] at h2
          cases h2
      rw [hT, ht0]
      refine ⟨by decide, 9223372036854775808, fun ts ty P w => ?_, by rw [toIntVal_nzero]; simp⟩
      rw [fmin ts ty (W n) 9223372036854775808 hWl (by decide) hWn (by decide) P w]
      have hk0 : key 9223372036854775808 = 0 := by decide
      have hge : 0 ≤ key (W n) := by obtain ⟨r, _, _, h3, _⟩ := rung_W hn; omega
      rw [hk0, if_neg (by omega)]
      by_cases hz : 0 < key (W n)
      · rw [if_pos hz]
      · rw [if_neg hz]
        have : n = 0 := by
          have := (key_W_eq hn' (b := 0) (by decide)).1 (by rw [key_W_zero]; omega)
          omega
        subst this
        rw [show W ((0 : Nat) : Int) = 0 from W_zero, neg_zero_decode]
        rfl
    · have hT : tr x = W t := by
        rw [e2, decide_eq_false hs, W_eq, Int.natAbs_natCast, show decide ((t : Int) < 0) = false from by simp]
      obtain ⟨hTl, hTn⟩ := W_nat_lt ht
      rw [hT]
      refine ⟨hTn, W ((min n t : Nat) : Int), fun ts ty P w => ?_, toIntVal_W (by simp; omega)⟩
      rw [fmin ts ty (W n) (W t) hWl hTl hWn hTn P w]
      have k1 := key_W_lt hn' ht'
      have k2 := key_W_lt ht' hn'
      by_cases h1 : n < t
      · rw [if_pos (k1.2 (by omega)), show min n t = n from by omega]
      · rw [if_neg (fun hh => h1 (by have := k1.1 hh; omega))]
        by_cases h2 : t < n
        · rw [if_pos (k2.2 (by omega)), show min n t = t from by omega]
        · rw [if_neg (fun hh => h2 (by have := k2.1 hh; omega)), show min n t = t from by omega, show n = t from by omega]
          simp
  · obtain ⟨htn, r, hT, h1, h2⟩ := tn_big hx h hN
    have hs : ¬ 9223372036854775808 ≤ x := by intro hs; unfold key at hk; split at hk <;> omega
    rw [decide_eq_false hs] at hT
    have hkT : key (tr x) = r := by rw [hT, key_word _ (by omega)]; rfl
    have hNT : isN (tr x) = false := by rw [hT]; exact isN_word _ h2
    have hlT : tr x < 18446744073709551616 := by rw [hT]; exact word_lt2 _ (by omega)
    rw [htn]
    refine ⟨hNT, W n, fun ts ty P w => ?_, by rw [show min n 9007199254740992 = n from by omega]; exact toIntVal_W hn'⟩
    rw [fmin ts ty (W n) (tr x) hWl hlT hWn hNT P w]
    have := (key_W_bounds hn').2
    rw [if_pos (by omega)]

theorem max_place {n x : Nat} (hn : n < 9007199254740992) (hx : x < 18446744073709551616) (hN : isN x = false) (hk : key x < 0) :
    ∃ S Z, floatBits .add .f64 (W n) (tr x) = some S ∧ (∀ ts t P w, (Go.Builtin.max_ ts t #[.float .f64 0, .float .f64 S]).run P w = .ok (.float .f64 Z) w) ∧ Go.floatToIntVal .f64 Z .i64 = some ((placeS n x : Nat) : Int) := by
  have hp : placeS n x = n - tn x := by unfold placeS; rw [hN]; simp only [Bool.false_eq_true, if_false]; rw [if_pos hk]
  obtain ⟨hWl, hWn⟩ := W_nat_lt hn
  have hn' : ((n : Int)).natAbs < 9007199254740992 := by simpa using hn
  have hs : 9223372036854775808 ≤ x := by unfold key at hk; split at hk <;> omega
  rw [hp]
  by_cases h : x % 9223372036854775808 ≤ 4845873199050653695
  · obtain ⟨ht, _, _, e2, _⟩ := tn_small hx h
    generalize tn x = t at ht e2 ⊢
    rw [decide_eq_true hs] at e2
    have hS : floatBits .add .f64 (W n) (tr x) = some (W ((n : Int) - t)) := by
      by_cases h0 : t = 0
      · rw [e2, h0, show D.nearest true 0 0 = 9223372036854775808 from by decide +kernel, add_nzero hn]; simp
      · rw [e2, W_sg _ h0, floatBits_add_W hn' (by unfold sg; simp; omega)]
        rfl
    have hd : ((n : Int) - t).natAbs < 9007199254740992 := by omega
    refine ⟨_, W ((n - t : Nat) : Int), hS, fun ts ty P w => ?_, toIntVal_W (by omega)⟩
    rw [fmax ts ty 0 _ (by decide) (W_lt hd) (by decide) (isN_W hd) P w]
    rw [← W_zero]
    have k1 := key_W_lt (a := 0) (by decide) hd
    have k2 := key_W_lt hd (b := 0) (by decide)
    by_cases h1 : (0 : Int) < (n : Int) - t
    · rw [if_pos (k1.2 h1), show ((n - t : Nat) : Int) = (n : Int) - t from by omega]
    · rw [if_neg (fun hh => h1 (k1.1 hh))]
      by_cases h2 : (n : Int) - t < 0
      · rw [if_pos (k2.2 h2), show ((n - t : Nat) : Int) = 0 from by omega]
      · rw [if_neg (fun hh => h2 (k2.1 hh)), show (n : Int) - t = 0 from by omega, show ((n - t : Nat) : Int) = 0 from by omega]
        simp
  · obtain ⟨htn, r, hT, h1, h2⟩ := tn_big hx h hN
    rw [decide_eq_true hs] at hT
    obtain ⟨R, hR, hRl, hRn, hRk⟩ := add_big hn h1 h2
    rw [htn, hT]
    refine ⟨R, W 0, hR, fun ts ty P w => ?_, by rw [show n - 9007199254740992 = 0 from by omega]; exact toIntVal_W (by decide)⟩
    rw [fmax ts ty 0 R (by decide) hRl (by decide) hRn P w, show key 0 = 0 from by decide, if_neg (by omega)]
    by_cases hz : key R < 0
    · rw [if_pos hz, W_zero]
    · rw [if_neg hz, neg_zero_decode, W_zero]; rfl
end Fl
