/-
  math.IsInf, IsNaN, normalize, Frexp and Ldexp of floats that are whole numbers. Conditions: whole numbers below 2^53.
-/
import Derived.Test.YtajmdpndbfmdmaaDoorNumG
namespace Go.Proofs.YtajmdpndbfmdmaaDoor
open Go Go.RowKit

theorem isInf_any (x : Nat) (w : World) (hx : x < 18446744073709551616) :
    Calls Tryd.prog 172 #[.float .f64 x, .int .i64 0] w fun e w' => e = .returned (.bool (Fl.flt 9218868437227405311 (x % 9223372036854775808))) ∧ w = w' := by
  have hA := Lib.hid (fun w' => abs_any x w' hx)
  have h1 := Fl.ord_gtr (x := x % 9223372036854775808) (y := 9218868437227405311) (by omega) (by omega)
  generalize Fl.flt 9218868437227405311 (x % 9223372036854775808) = b at h1 ⊢
  clear hx
  go_enter Tryd.func172, Tryd.ntmps172
  go_wp2_with (go_at_call 103; refine (hA.out _).mono ?_; rintro e w' ⟨rfl, rfl⟩)
  go_ret
  exact ⟨rfl, rfl⟩

theorem isNaN_any (x : Nat) (w : World) (hx : x < 18446744073709551616) :
    Calls Tryd.prog 173 #[.float .f64 x] w fun e w' => e = .returned (.bool (Fl.isN x)) ∧ w = w' := by
  have h1 := Fl.ord_neq hx hx
  rw [Fl.feq_self] at h1
  cases e : Fl.isN x <;> rw [e] at h1 <;> clear e hx
  all_goals
    go_enter Tryd.func173, Tryd.ntmps173
    go_wp2
    go_ret
    exact ⟨rfl, rfl⟩

theorem nan_any (w : World) :
    Calls Tryd.prog 96 #[] w fun e w' => e = .returned (.float .f64 9221120237041090561) ∧ w = w' := by
  have hf := ext_frombits
  go_enter Tryd.func96, Tryd.ntmps96
  go_wp2
  go_ret
  exact ⟨rfl, rfl⟩

/-- A whole number that is not nought: its word, and what the tests say of it. -/
structure Pos (n X e f : Nat) : Prop where
  h0 : n ≠ 0
  hn : n < 9007199254740992
  hX : Fl.W (n : Int) = X
  hl : X < 18446744073709551616
  hm : X % 9223372036854775808 = X
  he : e = n.log2 + 1023
  he1 : e ≤ 1075
  hf : f < 4503599627370496
  hXe : X = e * 4503599627370496 + f
  notInf : Fl.flt 9218868437227405311 X = false
  notN : Fl.isN X = false
  notZ : Fl.feq X 0 = false
  norm : Fl.flt X 4503599627370496 = false

theorem pos_of {n : Nat} (h0 : n ≠ 0) (hn : n < 9007199254740992) : ∃ X e f, Pos n X e f := by
  obtain ⟨f, h1, h2, _, h4⟩ := Fl.W_fields h0 hn
  have hb : (n : Int).natAbs < 9007199254740992 := by omega
  have hk : Fl.key (Fl.W (n : Int)) = (((n.log2 + 1023) * 4503599627370496 + f : Nat) : Int) := by
    rw [h1]; unfold Fl.key; rw [if_pos (by omega)]
  have hN : Fl.isN (Fl.W (n : Int)) = false := Fl.isN_W hb
  refine ⟨_, _, f, h0, hn, rfl, Fl.W_lt hb, ?_, rfl, by omega, h2, h1, ?_, hN, ?_, ?_⟩
  · rw [h1]; omega
  · unfold Fl.flt; rw [hk, show Fl.key 9218868437227405311 = 9218868437227405311 from by decide]
    rw [decide_eq_false (by omega)]; simp
  · unfold Fl.feq; rw [hk, Fl.key_zero']
    rw [decide_eq_false (by omega)]; simp
  · unfold Fl.flt; rw [hk, show Fl.key 4503599627370496 = 4503599627370496 from by decide]
    rw [decide_eq_false (by omega)]; simp

theorem normalize_pos {n X e f : Nat} (h : Pos n X e f) (w : World) :
    Calls Tryd.prog 195 #[.float .f64 X] w fun e w' => e = .returned (.tuple #[.float .f64 X, .int .i64 0]) ∧ w = w' := by
  have hA := abs_any X
  rw [h.hm] at hA
  have hA := Lib.hid (fun w' => hA w' h.hl)
  have h1 := Fl.ord_lss h.hl (y := 4503599627370496) (by omega)
  rw [h.norm] at h1
  clear h
  go_enter Tryd.func195, Tryd.ntmps195
  go_wp2_with (go_at_call 103; refine (hA.out _).mono ?_; rintro e w' ⟨rfl, rfl⟩)
  go_ret2
  exact ⟨rfl, rfl⟩

theorem i64_and_small (a b : Nat) (ha : a < 4294967296) (hb : b < 4294967296) : bits .and .i64 (a : Int) (b : Int) = ((a &&& b : Nat) : Int) := by
  have hx : a &&& b < 2 ^ 32 := Nat.and_lt_two_pow _ (by omega)
  show IntKind.i64.wrap ((BitVec.ofInt 64 (a : Int) &&& BitVec.ofInt 64 (b : Int)).toNat : Int) = _
  rw [BitVec.toNat_and, ofInt_u64 a (by omega), ofInt_u64 b (by omega)]
  simp [IntKind.wrap, IntKind.bits, IntKind.signed]
  omega

theorem fields_int {X e f : Nat} (hX : X = e * 4503599627370496 + f) (hf : f < 4503599627370496) (he : e ≤ 1075) :
    (X : Int) / 4503599627370496 = (e : Int) ∧ bits .and .u64 (e : Int) 2047 = (e : Int) ∧ bits .and .i64 (e : Int) 2047 = (e : Int) ∧
    bits .andNot .u64 (X : Int) 9218868437227405312 = (f : Int) := by
  have ha : e &&& 2047 = e := by rw [show (2047 : Nat) = 2 ^ 11 - 1 from rfl, Nat.and_two_pow_sub_one_eq_mod]; omega
  refine ⟨by omega, ?_, ?_, ?_⟩
  · rw [show (2047 : Int) = ((2047 : Nat) : Int) from rfl, u64_and_nat e 2047 (by omega) (by omega), ha]
  · rw [show (2047 : Int) = ((2047 : Nat) : Int) from rfl, i64_and_small e 2047 (by omega) (by omega), ha]
  · rw [show (9218868437227405312 : Int) = ((9218868437227405312 : Nat) : Int) from rfl, u64_andNot_nat X 9218868437227405312 (by omega) (by omega)]
    have h2 : X &&& (18446744073709551615 - 9218868437227405312) = f := by
      apply Nat.eq_of_testBit_eq
      intro i
      have hm : (18446744073709551615 - 9218868437227405312 : Nat) = 2 ^ 52 * 2048 + (2 ^ 52 - 1) := by decide
      rw [Nat.testBit_and, hm, Nat.testBit_two_pow_mul_add _ (by decide), hX, show (4503599627370496 : Nat) = 2 ^ 52 from by decide, Nat.mul_comm, Nat.testBit_two_pow_mul_add _ (by rw [show (2 : Nat) ^ 52 = 4503599627370496 from by decide]; exact hf)]
      by_cases hi : i < 52
      · rw [if_pos hi, if_pos hi, Nat.testBit_two_pow_sub_one]; simp [hi]
      · rw [if_neg hi, if_neg hi, show (2048 : Nat) = 2 ^ 11 from rfl, Nat.testBit_two_pow]
        have hf' : f.testBit i = false := Nat.testBit_lt_two_pow (Nat.lt_of_lt_of_le hf (by rw [show (4503599627370496 : Nat) = 2 ^ 52 from by decide]; exact Nat.pow_le_pow_right (by decide) (by omega)))
        rw [hf']
        by_cases h11 : 11 = i - 52
        · rw [← h11]
          rw [Nat.testBit_lt_two_pow (show e < 2 ^ 11 by omega)]; rfl
        · simp [h11]
    rw [h2]

theorem or_int {g f : Nat} (hf : f < 4503599627370496) (hg : g ≤ 2047) : bits .or .u64 (f : Int) ((g : Int) * 4503599627370496) = ((g * 4503599627370496 + f : Nat) : Int) := by
  rw [show (g : Int) * 4503599627370496 = ((g * 4503599627370496 : Nat) : Int) from by omega, u64_or_nat f _ (by omega) (by omega), Fl.or_fields g f hf]

theorem frexp_pos {n X e f : Nat} (h : Pos n X e f) (w : World) :
    Calls Tryd.prog 188 #[.float .f64 X] w fun r w' => r = .returned (.tuple #[.float .f64 (4602678819172646912 + f), .int .i64 ((e : Int) - 1023 + 1)]) ∧ w = w' := by
  have hI := isInf_any X
  rw [h.hm, h.notInf] at hI
  have hI' := Lib.hid (fun w' => hI w' h.hl)
  have hN := isNaN_any X
  rw [h.notN] at hN
  have hN' := Lib.hid (fun w' => hN w' h.hl)
  have hZ := Lib.hid (fun w' => normalize_pos h w')
  have h1 := Fl.ord_eql h.hl (y := 0) (by omega)
  rw [h.notZ] at h1
  have hb := ext_bits X
  have hf := ext_frombits
  obtain ⟨q1, q2, _, q4⟩ := fields_int h.hXe h.hf h.he1
  have q5 : bits .or .u64 (f : Int) 4602678819172646912 = ((4602678819172646912 + f : Nat) : Int) := by
    have := or_int (g := 1022) h.hf (by decide)
    rw [show ((1022 : Nat) : Int) * 4503599627370496 = 4602678819172646912 from rfl] at this
    exact this
  have e0 : 0 ≤ (e : Int) := by omega
  have e1 : (e : Int) ≤ 1075 := by have := h.he1; omega
  generalize 4602678819172646912 + f = R at q5 ⊢
  clear h hI hN
  go_enter Tryd.func188, Tryd.ntmps188
  go_wp2_with (first | (go_at_call 172; refine (hI'.out _).mono ?_; rintro e w' ⟨rfl, rfl⟩) | (go_at_call 173; refine (hN'.out _).mono ?_; rintro e w' ⟨rfl, rfl⟩) | (go_at_call 195; refine (hZ.out _).mono ?_; rintro e w' ⟨rfl, rfl⟩))
  go_ret2
  exact ⟨rfl, rfl⟩

theorem ldexp_pos {n X e f : Nat} (h : Pos n X e f) (k : Nat) (w : World) (hk : n * 2 ^ k < 9007199254740992) :
    Calls Tryd.prog 190 #[.float .f64 X, .int .i64 k] w fun r w' => r = .returned (.float .f64 (Fl.W ((n * 2 ^ k : Nat) : Int))) ∧ w = w' := by
  have hI := isInf_any X
  rw [h.hm, h.notInf] at hI
  have hI' := Lib.hid (fun w' => hI w' h.hl)
  have hN := isNaN_any X
  rw [h.notN] at hN
  have hN' := Lib.hid (fun w' => hN w' h.hl)
  have hZ := Lib.hid (fun w' => normalize_pos h w')
  have h1 := Fl.ord_eql h.hl (y := 0) (by omega)
  rw [h.notZ] at h1
  have hb := ext_bits X
  have hf := ext_frombits
  obtain ⟨q1, _, q3, q4⟩ := fields_int h.hXe h.hf h.he1
  have hW : Fl.W ((n * 2 ^ k : Nat) : Int) = (k + e) * 4503599627370496 + f := by
    rw [Fl.W_ldexp h.h0 hk, h.hX, h.hXe, Nat.add_mul]; omega
  have hk52 : k ≤ 52 := by
    apply Nat.not_lt.1; intro hgt
    have h2 : 2 ^ 53 ≤ 2 ^ k := Nat.pow_le_pow_right (by decide) hgt
    have h3 : 1 * 2 ^ k ≤ n * 2 ^ k := Nat.mul_le_mul_right _ (by have := h.h0; omega)
    omega
  have hke : k + e ≤ 1127 := by have := h.he1; omega
  have q5 := or_int (g := k + e) h.hf (by omega)
  rw [← hW, show ((k + e : Nat) : Int) = (k : Int) + ((e : Int) - 1023) + 1023 from by omega] at q5
  have e0 : 0 ≤ (e : Int) := by omega
  have e1 : (e : Int) ≤ 1075 := by have := h.he1; omega
  have k0 : 0 ≤ (k : Int) := by omega
  have k1 : (k : Int) ≤ 52 := by omega
  have hm : ∀ w, (binOp .mul 22 (.float .f64 4607182418800017408) (.float .f64 (Fl.W ((n * 2 ^ k : Nat) : Int)))).run Tryd.prog w = .ok (.float .f64 (Fl.W ((n * 2 ^ k : Nat) : Int))) w := by
    intro w
    refine run_float_arith w .mul 22 .f64 _ _ _ ?_
    have := Fl.mul_W (a := 1) (b := ((n * 2 ^ k : Nat) : Int)) (by decide) (by omega)
    have hne : n * 2 ^ k ≠ 0 := Nat.mul_ne_zero h.h0 (by have := Nat.two_pow_pos k; omega)
    rw [Int.one_mul, if_neg (by omega)] at this
    exact this
  have e2 : 1 ≤ (e : Int) := by have := h.he; omega
  have e3 : 1023 ≤ (e : Int) := by have := h.he; omega
  generalize Fl.W ((n * 2 ^ k : Nat) : Int) = R at *
  clear h hI hN hW hk hk52 hke
  go_enter Tryd.func190, Tryd.ntmps190
  go_wp2_with (first | (go_at_call 172; refine (hI'.out _).mono ?_; rintro e w' ⟨rfl, rfl⟩) | (go_at_call 173; refine (hN'.out _).mono ?_; rintro e w' ⟨rfl, rfl⟩) | (go_at_call 195; refine (hZ.out _).mono ?_; rintro e w' ⟨rfl, rfl⟩))
  go_ret
  exact ⟨rfl, rfl⟩

theorem Frexp_pos {n X e f : Nat} (h : Pos n X e f) (w : World) :
    Calls Tryd.prog 174 #[.float .f64 X] w fun r w' => r = .returned (.tuple #[.float .f64 (4602678819172646912 + f), .int .i64 ((e : Int) - 1023 + 1)]) ∧ w = w' := by
  have hF := Lib.hid (fun w' => frexp_pos h w')
  clear h
  go_enter Tryd.func174, Tryd.ntmps174
  go_wp2_with (go_at_call 188; refine (hF.out _).mono ?_; rintro e w' ⟨rfl, rfl⟩)
  go_ret2
  exact ⟨rfl, rfl⟩

theorem Ldexp_pos {n X e f : Nat} (h : Pos n X e f) (k : Nat) (w : World) (hk : n * 2 ^ k < 9007199254740992) :
    Calls Tryd.prog 175 #[.float .f64 X, .int .i64 k] w fun r w' => r = .returned (.float .f64 (Fl.W ((n * 2 ^ k : Nat) : Int))) ∧ w = w' := by
  have hF := Lib.hid (fun w' => ldexp_pos h k w' hk)
  generalize Fl.W ((n * 2 ^ k : Nat) : Int) = R at *
  clear h hk
  go_enter Tryd.func175, Tryd.ntmps175
  go_wp2_with (go_at_call 190; refine (hF.out _).mono ?_; rintro e w' ⟨rfl, rfl⟩)
  go_ret
  exact ⟨rfl, rfl⟩
end Go.Proofs.YtajmdpndbfmdmaaDoor
