/-
  math.IsInf, IsNaN, normalize, Frexp and Ldexp of floats that are whole numbers. Conditions: whole numbers below 2^53.
  math.Mod of two floats that are whole numbers is the remainder of the whole numbers. Conditions: whole numbers below 2^53, the second one not 0.
  num.done and num.Add, Sub and Mul return what the whole numbers come to. Conditions: the arguments are words of 64 bits.
  num.Div, Rem and Neg return what the whole numbers come to. Conditions: the arguments are words of 64 bits.
  num.Rem and Neg return what the whole numbers come to. Conditions: the arguments are words of 64 bits.
  The document's Add, Sub, Mul, Div, Rem and Neg of numbers return what the whole numbers come to. Conditions: the arguments are words of 64 bits.
-/
import Derived.Test.YtajmdpndbfmdmaaDoorNuA
import Derived.LoopTactic
import Derived.Test.YtajmdpndbfmdmaaDoorFl
namespace Go.Proofs.YtajmdpndbfmdmaaDoor
open Go Go.RowKit

theorem isInf_any (x : Nat) (w : World) (hx : x < 18446744073709551616) :
    Calls Tryd.prog 172 #[.float .f64 x, .int .i64 0] w fun e w' => e = .returned (.bool (Fl.flt 9218868437227405311 (x % 9223372036854775808))) ∧ w = w' := by
  have hA := Lib.hid (fun w' => abs_any x w' hx)
  have h1 := Fl.ord_gtr (x := x % 9223372036854775808) (y := 9218868437227405311) (by omega) (by omega)
  generalize Fl.flt 9218868437227405311 (x % 9223372036854775808) = b at h1 ⊢
  clear hx
  go_enter Tryd.func172, Tryd.ntmps172
  go_wp2_with (go_at_call 103; refine (hA.out _).mono ?_; rintro e w' ⟨rfl, rfl⟩)
  go_ret
  exact ⟨rfl, rfl⟩

theorem isNaN_any (x : Nat) (w : World) (hx : x < 18446744073709551616) :
    Calls Tryd.prog 173 #[.float .f64 x] w fun e w' => e = .returned (.bool (Fl.isN x)) ∧ w = w' := by
  have h1 := Fl.ord_neq hx hx
  rw [Fl.feq_self] at h1
  cases e : Fl.isN x <;> rw [e] at h1 <;> clear e hx
  all_goals
    go_enter Tryd.func173, Tryd.ntmps173
    go_wp2
    go_ret
    exact ⟨rfl, rfl⟩

theorem nan_any (w : World) :
    Calls Tryd.prog 96 #[] w fun e w' => e = .returned (.float .f64 9221120237041090561) ∧ w = w' := by
  have hf := ext_frombits
  go_enter Tryd.func96, Tryd.ntmps96
  go_wp2
  go_ret
  exact ⟨rfl, rfl⟩

/-- A whole number that is not nought: its word, and what the tests say of it. -/
structure Pos (n X e f : Nat) : Prop where
  h0 : n ≠ 0
  hn : n < 9007199254740992
  hX : Fl.W (n : Int) = X
  hl : X < 18446744073709551616
  hm : X % 9223372036854775808 = X
  he : e = n.log2 + 1023
  he1 : e ≤ 1075
  hf : f < 4503599627370496
  hXe : X = e * 4503599627370496 + f
  notInf : Fl.flt 9218868437227405311 X = false
  notN : Fl.isN X = false
  notZ : Fl.feq X 0 = false
  norm : Fl.flt X 4503599627370496 = false

theorem pos_of {n : Nat} (h0 : n ≠ 0) (hn : n < 9007199254740992) : ∃ X e f, Pos n X e f := by
  obtain ⟨f, h1, h2, _, h4⟩ := Fl.W_fields h0 hn
  have hb : (n : Int).natAbs < 9007199254740992 := by omega
  have hk : Fl.key (Fl.W (n : Int)) = (((n.log2 + 1023) * 4503599627370496 + f : Nat) : Int) := by
    rw [h1]; unfold Fl.key; rw [if_pos (by omega)]
  have hN : Fl.isN (Fl.W (n : Int)) = false := Fl.isN_W hb
  refine ⟨_, _, f, h0, hn, rfl, Fl.W_lt hb, ?_, rfl, by omega, h2, h1, ?_, hN, ?_, ?_⟩
  · rw [h1]; omega
  · unfold Fl.flt; rw [hk, show Fl.key 9218868437227405311 = 9218868437227405311 from by decide]
    rw [decide_eq_false (by omega)]; simp
  · unfold Fl.feq; rw [hk, Fl.key_zero']
    rw [decide_eq_false (by omega)]; simp
  · unfold Fl.flt; rw [hk, show Fl.key 4503599627370496 = 4503599627370496 from by decide]
    rw [decide_eq_false (by omega)]; simp

theorem normalize_pos {n X e f : Nat} (h : Pos n X e f) (w : World) :
    Calls Tryd.prog 195 #[.float .f64 X] w fun e w' => e = .returned (.tuple #[.float .f64 X, .int .i64 0]) ∧ w = w' := by
  have hA := abs_any X
  rw [h.hm] at hA
  have hA := Lib.hid (fun w' => hA w' h.hl)
  have h1 := Fl.ord_lss h.hl (y := 4503599627370496) (by omega)
  rw [h.norm] at h1
  clear h
  go_enter Tryd.func195, Tryd.ntmps195
  go_wp2_with (go_at_call 103; refine (hA.out _).mono ?_; rintro e w' ⟨rfl, rfl⟩)
  go_ret2
  exact ⟨rfl, rfl⟩

theorem i64_and_small (a b : Nat) (ha : a < 4294967296) (hb : b < 4294967296) : bits .and .i64 (a : Int) (b : Int) = ((a &&& b : Nat) : Int) := by
  have hx : a &&& b < 2 ^ 32 := Nat.and_lt_two_pow _ (by omega)
  show IntKind.i64.wrap ((BitVec.ofInt 64 (a : Int) &&& BitVec.ofInt 64 (b : Int)).toNat : Int) = _
  rw [BitVec.toNat_and, ofInt_u64 a (by omega), ofInt_u64 b (by omega)]
  simp [IntKind.wrap, IntKind.bits, IntKind.signed]
  omega

theorem fields_int {X e f : Nat} (hX : X = e * 4503599627370496 + f) (hf : f < 4503599627370496) (he : e ≤ 1075) :
    (X : Int) / 4503599627370496 = (e : Int) ∧ bits .and .u64 (e : Int) 2047 = (e : Int) ∧ bits .and .i64 (e : Int) 2047 = (e : Int) ∧
    bits .andNot .u64 (X : Int) 9218868437227405312 = (f : Int) := by
  have ha : e &&& 2047 = e := by rw [show (2047 : Nat) = 2 ^ 11 - 1 from rfl, Nat.and_two_pow_sub_one_eq_mod]; omega
  refine ⟨by omega, ?_, ?_, ?_⟩
  · rw [show (2047 : Int) = ((2047 : Nat) : Int) from rfl, u64_and_nat e 2047 (by omega) (by omega), ha]
  · rw [show (2047 : Int) = ((2047 : Nat) : Int) from rfl, i64_and_small e 2047 (by omega) (by omega), ha]
  · rw [show (9218868437227405312 : Int) = ((9218868437227405312 : Nat) : Int) from rfl, u64_andNot_nat X 9218868437227405312 (by omega) (by omega)]
    have h2 : X &&& (18446744073709551615 - 9218868437227405312) = f := by
      apply Nat.eq_of_testBit_eq
      intro i
      have hm : (18446744073709551615 - 9218868437227405312 : Nat) = 2 ^ 52 * 2048 + (2 ^ 52 - 1) := by decide
      rw [Nat.testBit_and, hm, Nat.testBit_two_pow_mul_add _ (by decide), hX, show (4503599627370496 : Nat) = 2 ^ 52 from by decide, Nat.mul_comm, Nat.testBit_two_pow_mul_add _ (by rw [show (2 : Nat) ^ 52 = 4503599627370496 from by decide]; exact hf)]
      by_cases hi : i < 52
      · rw [if_pos hi, if_pos hi, Nat.testBit_two_pow_sub_one]; simp [hi]
      · rw [if_neg hi, if_neg hi, show (2048 : Nat) = 2 ^ 11 from rfl, Nat.testBit_two_pow]
        have hf' : f.testBit i = false := Nat.testBit_lt_two_pow (Nat.lt_of_lt_of_le hf (by rw [show (4503599627370496 : Nat) = 2 ^ 52 from by decide]; exact Nat.pow_le_pow_right (by decide) (by omega)))
        rw [hf']
        by_cases h11 : 11 = i - 52
        · rw [← h11]
          rw [Nat.testBit_lt_two_pow (show e < 2 ^ 11 by omega)]; rfl
        · simp [h11]
    rw [h2]

theorem or_int {g f : Nat} (hf : f < 4503599627370496) (hg : g ≤ 2047) : bits .or .u64 (f : Int) ((g : Int) * 4503599627370496) = ((g * 4503599627370496 + f : Nat) : Int) := by
  rw [show (g : Int) * 4503599627370496 = ((g * 4503599627370496 : Nat) : Int) from by omega, u64_or_nat f _ (by omega) (by omega), Fl.or_fields g f hf]

theorem frexp_pos {n X e f : Nat} (h : Pos n X e f) (w : World) :
    Calls Tryd.prog 188 #[.float .f64 X] w fun r w' => r = .returned (.tuple #[.float .f64 (4602678819172646912 + f), .int .i64 ((e : Int) - 1023 + 1)]) ∧ w = w' := by
  have hI := isInf_any X
  rw [h.hm, h.notInf] at hI
  have hI' := Lib.hid (fun w' => hI w' h.hl)
  have hN := isNaN_any X
  rw [h.notN] at hN
  have hN' := Lib.hid (fun w' => hN w' h.hl)
  have hZ := Lib.hid (fun w' => normalize_pos h w')
  have h1 := Fl.ord_eql h.hl (y := 0) (by omega)
  rw [h.notZ] at h1
  have hb := ext_bits X
  have hf := ext_frombits
  obtain ⟨q1, q2, _, q4⟩ := fields_int h.hXe h.hf h.he1
  have q5 : bits .or .u64 (f : Int) 4602678819172646912 = ((4602678819172646912 + f : Nat) : Int) := by
    have := or_int (g := 1022) h.hf (by decide)
    rw [show ((1022 : Nat) : Int) * 4503599627370496 = 4602678819172646912 from rfl] at this
    exact this
  have e0 : 0 ≤ (e : Int) := by omega
  have e1 : (e : Int) ≤ 1075 := by have := h.he1; omega
  generalize 4602678819172646912 + f = R at q5 ⊢
  clear h hI hN
  go_enter Tryd.func188, Tryd.ntmps188
  go_wp2_with (first | (go_at_call 172; refine (hI'.out _).mono ?_; rintro e w' ⟨rfl, rfl⟩) | (go_at_call 173; refine (hN'.out _).mono ?_; rintro e w' ⟨rfl, rfl⟩) | (go_at_call 195; refine (hZ.out _).mono ?_; rintro e w' ⟨rfl, rfl⟩))
  go_ret2
  exact ⟨rfl, rfl⟩

theorem ldexp_pos {n X e f : Nat} (h : Pos n X e f) (k : Nat) (w : World) (hk : n * 2 ^ k < 9007199254740992) :
    Calls Tryd.prog 190 #[.float .f64 X, .int .i64 k] w fun r w' => r = .returned (.float .f64 (Fl.W ((n * 2 ^ k : Nat) : Int))) ∧ w = w' := by
  have hI := isInf_any X
  rw [h.hm, h.notInf] at hI
  have hI' := Lib.hid (fun w' => hI w' h.hl)
  have hN := isNaN_any X
  rw [h.notN] at hN
  have hN' := Lib.hid (fun w' => hN w' h.hl)
  have hZ := Lib.hid (fun w' => normalize_pos h w')
  have h1 := Fl.ord_eql h.hl (y := 0) (by omega)
  rw [h.notZ] at h1
  have hb := ext_bits X
  have hf := ext_frombits
  obtain ⟨q1, _, q3, q4⟩ := fields_int h.hXe h.hf h.he1
  have hW : Fl.W ((n * 2 ^ k : Nat) : Int) = (k + e) * 4503599627370496 + f := by
    rw [Fl.W_ldexp h.h0 hk, h.hX, h.hXe, Nat.add_mul]; omega
  have hk52 : k ≤ 52 := by
    apply Nat.not_lt.1; intro hgt
    have h2 : 2 ^ 53 ≤ 2 ^ k := Nat.pow_le_pow_right (by decide) hgt
    have h3 : 1 * 2 ^ k ≤ n * 2 ^ k := Nat.mul_le_mul_right _ (by have := h.h0; omega)
    omega
  have hke : k + e ≤ 1127 := by have := h.he1; omega
  have q5 := or_int (g := k + e) h.hf (by omega)
  rw [← hW, show ((k + e : Nat) : Int) = (k : Int) + ((e : Int) - 1023) + 1023 from by omega] at q5
  have e0 : 0 ≤ (e : Int) := by omega
  have e1 : (e : Int) ≤ 1075 := by have := h.he1; omega
  have k0 : 0 ≤ (k : Int) := by omega
  have k1 : (k : Int) ≤ 52 := by omega
  have hm : ∀ w, (binOp .mul 22 (.float .f64 4607182418800017408) (.float .f64 (Fl.W ((n * 2 ^ k : Nat) : Int)))).run Tryd.prog w = .ok (.float .f64 (Fl.W ((n * 2 ^ k : Nat) : Int))) w := by
    intro w
    refine run_float_arith w .mul 22 .f64 _ _ _ ?_
    have := Fl.mul_W (a := 1) (b := ((n * 2 ^ k : Nat) : Int)) (by decide) (by omega)
    have hne : n * 2 ^ k ≠ 0 := Nat.mul_ne_zero h.h0 (by have := Nat.two_pow_pos k; omega)
    rw [Int.one_mul, if_neg (by omega)] at this
    exact this
  have e2 : 1 ≤ (e : Int) := by have := h.he; omega
  have e3 : 1023 ≤ (e : Int) := by have := h.he; omega
  generalize Fl.W ((n * 2 ^ k : Nat) : Int) = R at *
  clear h hI hN hW hk hk52 hke
  go_enter Tryd.func190, Tryd.ntmps190
  go_wp2_with (first | (go_at_call 172; refine (hI'.out _).mono ?_; rintro e w' ⟨rfl, rfl⟩) | (go_at_call 173; refine (hN'.out _).mono ?_; rintro e w' ⟨rfl, rfl⟩) | (go_at_call 195; refine (hZ.out _).mono ?_; rintro e w' ⟨rfl, rfl⟩))
  go_ret
  exact ⟨rfl, rfl⟩

theorem Frexp_pos {n X e f : Nat} (h : Pos n X e f) (w : World) :
    Calls Tryd.prog 174 #[.float .f64 X] w fun r w' => r = .returned (.tuple #[.float .f64 (4602678819172646912 + f), .int .i64 ((e : Int) - 1023 + 1)]) ∧ w = w' := by
  have hF := Lib.hid (fun w' => frexp_pos h w')
  clear h
  go_enter Tryd.func174, Tryd.ntmps174
  go_wp2_with (go_at_call 188; refine (hF.out _).mono ?_; rintro e w' ⟨rfl, rfl⟩)
  go_ret2
  exact ⟨rfl, rfl⟩

theorem Ldexp_pos {n X e f : Nat} (h : Pos n X e f) (k : Nat) (w : World) (hk : n * 2 ^ k < 9007199254740992) :
    Calls Tryd.prog 175 #[.float .f64 X, .int .i64 k] w fun r w' => r = .returned (.float .f64 (Fl.W ((n * 2 ^ k : Nat) : Int))) ∧ w = w' := by
  have hF := Lib.hid (fun w' => ldexp_pos h k w' hk)
  generalize Fl.W ((n * 2 ^ k : Nat) : Int) = R at *
  clear h hk
  go_enter Tryd.func175, Tryd.ntmps175
  go_wp2_with (go_at_call 190; refine (hF.out _).mono ?_; rintro e w' ⟨rfl, rfl⟩)
  go_ret
  exact ⟨rfl, rfl⟩
end Go.Proofs.YtajmdpndbfmdmaaDoor
namespace Go.Proofs.YtajmdpndbfmdmaaDoor
open Go Go.RowKit

/-- What math.Mod gives. -/
def modV (a b : Int) : Nat := if a < 0 ∧ a.tmod b = 0 then 9223372036854775808 else Fl.W (a.tmod b)

theorem abs_W {b : Int} (hb : b.natAbs < 9007199254740992) : Fl.W b % 9223372036854775808 = Fl.W (b.natAbs : Int) := by
  by_cases h : b = 0
  · subst h; decide
  · obtain ⟨e1, _, h2⟩ := Fl.nearest_small (decide (b < 0)) (show b.natAbs ≠ 0 by omega) hb
    obtain ⟨e2, _, _⟩ := Fl.nearest_small false (show b.natAbs ≠ 0 by omega) hb
    have hl := Fl.log_lt (show b.natAbs ≠ 0 by omega) hb
    rw [Fl.W_eq, Fl.W_eq, Int.natAbs_natCast, show decide ((b.natAbs : Int) < 0) = false from decide_eq_false (by omega), e1, e2]
    rw [(Fl.word_div _ (by omega)).2]
    rfl

theorem key_nat {n : Nat} (hn : n < 9007199254740992) : Fl.key (Fl.W (n : Int)) = (Fl.W (n : Int) : Int) ∧ Fl.W (n : Int) < 9223372036854775808 := by
  have h := abs_W (b := (n : Int)) (by omega)
  rw [Int.natAbs_natCast] at h
  have : Fl.W (n : Int) < 9223372036854775808 := by rw [← h]; exact Nat.mod_lt _ (by decide)
  exact ⟨by unfold Fl.key; rw [if_pos this], this⟩

theorem W_nat_lt {m n : Nat} (hm : m < 9007199254740992) (hn : n < 9007199254740992) (h : m < n) : Fl.W (m : Int) < Fl.W (n : Int) := by
  have := (Fl.key_W_lt (a := (m : Int)) (b := (n : Int)) (by omega) (by omega)).2 (by omega)
  rw [(key_nat hm).1, (key_nat hn).1] at this
  omega

/-- The fraction parts as floats. -/
theorem frac_lss {f g : Nat} (hf : f < 4503599627370496) (hg : g < 4503599627370496) :
    (FloatKind.f64.format.order (4602678819172646912 + f) (4602678819172646912 + g) == some .lt) = decide (f < g) := by
  rw [Fl.ord_lss (by omega) (by omega)]
  unfold Fl.flt Fl.isN Fl.key
  rw [if_pos (by omega), if_pos (by omega), decide_eq_false (by omega), decide_eq_false (by omega)]
  simp only [Bool.not_false, Bool.true_and]
  rw [decide_eq_decide]; omega

/-- One round: what is taken off, and the exponents. -/
theorem round_of {R B X er fr Y ey fy : Nat} (hR : Pos R X er fr) (hB : Pos B Y ey fy) (hle : B ≤ R) :
    ∃ k : Nat, ((fr < fy ∧ (er : Int) - 1023 + 1 - 1 - ((ey : Int) - 1023 + 1) = (k : Int)) ∨ (¬ fr < fy ∧ (er : Int) - 1023 + 1 - ((ey : Int) - 1023 + 1) = (k : Int))) ∧
      B * 2 ^ k ≤ R ∧ 0 < B * 2 ^ k := by
  obtain ⟨h1, h2, h3⟩ := Fl.takes_spec hB.h0 hR.hn hle
  have e1 : Fl.W (R : Int) % 4503599627370496 = fr := by rw [hR.hX, hR.hXe]; have := hR.hf; omega
  have e2 : Fl.W (B : Int) % 4503599627370496 = fy := by rw [hB.hX, hB.hXe]; have := hB.hf; omega
  have g1 := hR.he
  have g2 := hB.he
  rw [e1, e2] at h2
  refine ⟨Fl.takes R B, ?_, h3, Nat.mul_pos (by have := hB.h0; omega) (Nat.two_pow_pos _)⟩
  unfold Fl.takes
  rw [e1, e2]
  by_cases c : fr < fy
  · have := h2 c
    rw [if_pos c]
    exact .inl ⟨c, by omega⟩
  · rw [if_neg c]
    exact .inr ⟨c, by omega⟩

/-- What the loop keeps. -/
def Left (A B : Nat) (v : Value) : Prop := ∃ R : Nat, R < 9007199254740992 ∧ R % B = A % B ∧ v = .float .f64 (Fl.W (R : Int))
def word : Value → Nat
  | .float _ b => b
  | _ => 0

theorem mod_nonneg (A B : Nat) (b : Int) (hA : A < 9007199254740992) (hb : b.natAbs = B) (hB0 : B ≠ 0) (hB : B < 9007199254740992) (w : World) :
    Calls Tryd.prog 153 #[.float .f64 (Fl.W (A : Int)), .float .f64 (Fl.W b)] w fun r w' => r = .returned (.float .f64 (Fl.W ((A % B : Nat) : Int))) ∧ w = w' := by
  obtain ⟨T, hT⟩ : ∃ T, T = Fl.W ((A % B : Nat) : Int) := ⟨_, rfl⟩
  rw [← hT]
  have hT' := Lib.hid hT
  clear hT
  have hbn : b.natAbs < 9007199254740992 := by omega
  have hAn : (A : Int).natAbs < 9007199254740992 := by omega
  obtain ⟨Y, ey, fy, hP⟩ := pos_of hB0 hB
  have hI := isInf_any (Fl.W (A : Int))
  rw [abs_W hAn, Int.natAbs_natCast, show Fl.flt 9218868437227405311 (Fl.W (A : Int)) = false from by
    unfold Fl.flt
    have h1 := (Fl.key_W_bounds hAn).2
    rw [show Fl.key 9218868437227405311 = 9218868437227405311 from by decide, decide_eq_false (by omega)]; simp] at hI
  have hI' := Lib.hid (fun w' => hI w' (Fl.W_lt hAn))
  have hN := isNaN_any (Fl.W (A : Int))
  rw [Fl.isN_W hAn] at hN
  have hN' := Lib.hid (fun w' => hN w' (Fl.W_lt hAn))
  have hM := isNaN_any (Fl.W b)
  rw [Fl.isN_W hbn] at hM
  have hM' := Lib.hid (fun w' => hM w' (Fl.W_lt hbn))
  have hAb := abs_any (Fl.W b)
  rw [abs_W hbn, hb, hP.hX] at hAb
  have hAb' := Lib.hid (fun w' => hAb w' (Fl.W_lt hbn))
  have h1 := Fl.ord_eql (Fl.W_lt hbn) (y := 0) (by omega)
  rw [show Fl.feq (Fl.W b) 0 = false from by
    have := Fl.feq_W hbn (b := 0) (by decide)
    rw [Fl.W_zero] at this
    rw [this]; exact decide_eq_false (by omega)] at h1
  have h2 := Fl.ord_lss (Fl.W_lt hAn) (y := 0) (by omega)
  rw [show Fl.flt (Fl.W (A : Int)) 0 = false from by
    have := Fl.flt_W hAn (b := 0) (by decide)
    rw [Fl.W_zero] at this
    rw [this]; exact decide_eq_false (by omega)] at h2
  have hFy := Lib.hid (fun w' => Frexp_pos hP w')
  have hP' := Lib.hid hP
  have hA' := Lib.hid hA
  have hB' := Lib.hid hB
  clear hI hN hM hAb hP hAn hbn hA hB hb
  go_enter Tryd.func153, Tryd.ntmps153
  go_wp2_with (first | (go_at_call 172; refine (hI'.out _).mono ?_; rintro e w' ⟨rfl, rfl⟩) | (go_at_call 103; refine (hAb'.out _).mono ?_; rintro e w' ⟨rfl, rfl⟩) | (go_at_call 174; refine (hFy.out _).mono ?_; rintro e w' ⟨rfl, rfl⟩))
  refine (hN'.out _).mono ?_; rintro e w' ⟨rfl, rfl⟩
  go_wp2_with fail
  refine (hM'.out _).mono ?_; rintro e w' ⟨rfl, rfl⟩
  go_wp2_with (first | (go_at_call 103; refine (hAb'.out _).mono ?_; rintro e w' ⟨rfl, rfl⟩) | (go_at_call 174; refine (hFy.out _).mono ?_; rintro e w' ⟨rfl, rfl⟩))
  go_loop [7] (fun r => Left A B r) (fun r => word r)
  case atStart => exact ⟨A, hA'.out, rfl, rfl⟩
  case round =>
    obtain ⟨R, hR0, hR1, rfl⟩ := hrel
    have hRn : (R : Int).natAbs < 9007199254740992 := by omega
    have hBn : (B : Int).natAbs < 9007199254740992 := by have := hB'.out; omega
    have g1 := Fl.ord_geq (Fl.W_lt hRn) (Fl.W_lt hBn)
    rw [Fl.fle_W hBn hRn, hP'.out.hX] at g1
    by_cases hle : B ≤ R
    · rw [decide_eq_true (by omega)] at g1
      obtain ⟨X, er, fr, hQ⟩ := pos_of (n := R) (by omega) hR0
      obtain ⟨k, hk, hk1, hk2⟩ := round_of hQ hP'.out hle
      have hF := Lib.hid (fun w' => Frexp_pos hQ w')
      have hL := Lib.hid (fun w' => Ldexp_pos hP'.out k w' (by omega))
      have g2 := frac_lss hQ.hf hP'.out.hf
      have hs : ∀ w', (binOp .sub 22 (.float .f64 X) (.float .f64 (Fl.W ((B * 2 ^ k : Nat) : Int)))).run Tryd.prog w' = .ok (.float .f64 (Fl.W ((R - B * 2 ^ k : Nat) : Int))) w' := by
        intro w'
        rw [← hQ.hX]
        refine run_float_arith w' .sub 22 .f64 _ _ _ ?_
        have := Fl.floatBits_sub_W (a := (R : Int)) (b := ((B * 2 ^ k : Nat) : Int)) (by omega) (by omega)
        rw [this]; congr 2; omega
      have hnew : Left A B (.float .f64 (Fl.W ((R - B * 2 ^ k : Nat) : Int))) := by
        refine ⟨_, by omega, ?_, rfl⟩
        rw [← hR1]
        have : R = (R - B * 2 ^ k) + B * 2 ^ k := by omega
        conv => rhs; rw [this]
        rw [Nat.add_mul_mod_self_left]
      have hless : Fl.W ((R - B * 2 ^ k : Nat) : Int) < Fl.W (R : Int) := W_nat_lt (by omega) hR0 (by omega)
      have hnew' := Lib.hid hnew
      have hless' := Lib.hid hless
      have er0 : 0 ≤ (er : Int) := by omega
      have er1 : (er : Int) ≤ 1075 := by have := hQ.he1; omega
      have ey0 : 0 ≤ (ey : Int) := by omega
      have ey1 : (ey : Int) ≤ 1075 := by have := hP'.out.he1; omega
      have hXe := hQ.hX
      rw [hXe] at g1 hless' ⊢
      clear hXe hRn hBn hR1 hQ hk1 hk2 hnew hless hR0 hle
      generalize Fl.W ((R - B * 2 ^ k : Nat) : Int) = Z at *
      generalize Fl.W ((B * 2 ^ k : Nat) : Int) = V at *
      rcases hk with ⟨c, hk⟩ | ⟨c, hk⟩
      · rw [decide_eq_true c] at g2
        have hk' := Lib.hid (show (er : Int) - 1023 - ((ey : Int) - 1023 + 1) = (k : Int) by omega)
        clear c hk
        go_wp2_with (go_at_call 174; refine (hF.out _).mono ?_; rintro e w' ⟨rfl, rfl⟩)
        rw [hk'.out]
        refine (hL.out _).mono ?_; rintro e w' ⟨rfl, rfl⟩
        go_wp2
        go_round
        case rel => exact hnew'.out
        case measure => exact hless'.out
      · rw [decide_eq_false c] at g2
        have hk' := Lib.hid hk
        clear c hk
        go_wp2_with (go_at_call 174; refine (hF.out _).mono ?_; rintro e w' ⟨rfl, rfl⟩)
        rw [hk'.out]
        refine (hL.out _).mono ?_; rintro e w' ⟨rfl, rfl⟩
        go_wp2
        go_round
        case rel => exact hnew'.out
        case measure => exact hless'.out
    · rw [decide_eq_false (by omega)] at g1
      have hfin := Lib.hid (show R = A % B by rw [← hR1, Nat.mod_eq_of_lt (by omega)])
      clear hle hR1 hR0 hRn hBn
      go_wp2
      go_ret
      exact ⟨by rw [hT'.out, ← hfin.out]; rfl, rfl⟩
theorem mod_neg (A B : Nat) (b : Int) (hA0 : A ≠ 0) (hA : A < 9007199254740992) (hb : b.natAbs = B) (hB0 : B ≠ 0) (hB : B < 9007199254740992) (w : World) :
    Calls Tryd.prog 153 #[.float .f64 (Fl.W (-(A : Int))), .float .f64 (Fl.W b)] w fun r w' => r = .returned (.float .f64 (if A % B = 0 then 9223372036854775808 else Fl.W (-((A % B : Nat) : Int)))) ∧ w = w' := by
  obtain ⟨T, hT⟩ : ∃ T, T = if A % B = 0 then 9223372036854775808 else Fl.W (-((A % B : Nat) : Int)) := ⟨_, rfl⟩
  rw [← hT]
  have hT' := Lib.hid hT
  clear hT
  have hbn : b.natAbs < 9007199254740992 := by omega
  have hAn : (-(A : Int)).natAbs < 9007199254740992 := by omega
  have hneg := Fl.neg_W (n := -(A : Int)) (by omega) hAn
  rw [Int.neg_neg] at hneg
  have hng : ∀ (x : Nat) (w : World), (Op.unary .neg (.float .f64 x)).run Tryd.prog w = .ok (.float .f64 (Op.negFloat .f64 x)) w := fun _ _ => rfl
  obtain ⟨Y, ey, fy, hP⟩ := pos_of hB0 hB
  have hI := isInf_any (Fl.W (-(A : Int)))
  rw [abs_W hAn, Int.natAbs_neg, Int.natAbs_natCast, show Fl.flt 9218868437227405311 (Fl.W (A : Int)) = false from by
    unfold Fl.flt
    have h1 := (Fl.key_W_bounds (n := (A : Int)) (by omega)).2
    rw [show Fl.key 9218868437227405311 = 9218868437227405311 from by decide, decide_eq_false (by omega)]; simp] at hI
  have hI' := Lib.hid (fun w' => hI w' (Fl.W_lt hAn))
  have hN := isNaN_any (Fl.W (-(A : Int)))
  rw [Fl.isN_W hAn] at hN
  have hN' := Lib.hid (fun w' => hN w' (Fl.W_lt hAn))
  have hM := isNaN_any (Fl.W b)
  rw [Fl.isN_W hbn] at hM
  have hM' := Lib.hid (fun w' => hM w' (Fl.W_lt hbn))
  have hAb := abs_any (Fl.W b)
  rw [abs_W hbn, hb, hP.hX] at hAb
  have hAb' := Lib.hid (fun w' => hAb w' (Fl.W_lt hbn))
  have h1 := Fl.ord_eql (Fl.W_lt hbn) (y := 0) (by omega)
  rw [show Fl.feq (Fl.W b) 0 = false from by
    have := Fl.feq_W hbn (b := 0) (by decide)
    rw [Fl.W_zero] at this
    rw [this]; exact decide_eq_false (by omega)] at h1
  have h2 := Fl.ord_lss (Fl.W_lt hAn) (y := 0) (by omega)
  rw [show Fl.flt (Fl.W (-(A : Int))) 0 = true from by
    have := Fl.flt_W hAn (b := 0) (by decide)
    rw [Fl.W_zero] at this
    rw [this]; exact decide_eq_true (by omega)] at h2
  have hFy := Lib.hid (fun w' => Frexp_pos hP w')
  have hP' := Lib.hid hP
  have hA' := Lib.hid hA
  have hB' := Lib.hid hB
  clear hI hN hM hAb hP hAn hbn hA hB hb
  go_enter Tryd.func153, Tryd.ntmps153
  go_wp2_with (first | (go_at_call 172; refine (hI'.out _).mono ?_; rintro e w' ⟨rfl, rfl⟩) | (go_at_call 103; refine (hAb'.out _).mono ?_; rintro e w' ⟨rfl, rfl⟩) | (go_at_call 174; refine (hFy.out _).mono ?_; rintro e w' ⟨rfl, rfl⟩))
  refine (hN'.out _).mono ?_; rintro e w' ⟨rfl, rfl⟩
  go_wp2_with fail
  refine (hM'.out _).mono ?_; rintro e w' ⟨rfl, rfl⟩
  go_wp2_with (first | (go_at_call 103; refine (hAb'.out _).mono ?_; rintro e w' ⟨rfl, rfl⟩) | (go_at_call 174; refine (hFy.out _).mono ?_; rintro e w' ⟨rfl, rfl⟩))
  go_loop [7] (fun r => Left A B r) (fun r => word r)
  case atStart => exact ⟨A, hA'.out, rfl, rfl⟩
  case round =>
    obtain ⟨R, hR0, hR1, rfl⟩ := hrel
    have hRn : (R : Int).natAbs < 9007199254740992 := by omega
    have hBn : (B : Int).natAbs < 9007199254740992 := by have := hB'.out; omega
    have g1 := Fl.ord_geq (Fl.W_lt hRn) (Fl.W_lt hBn)
    rw [Fl.fle_W hBn hRn, hP'.out.hX] at g1
    by_cases hle : B ≤ R
    · rw [decide_eq_true (by omega)] at g1
      obtain ⟨X, er, fr, hQ⟩ := pos_of (n := R) (by omega) hR0
      obtain ⟨k, hk, hk1, hk2⟩ := round_of hQ hP'.out hle
      have hF := Lib.hid (fun w' => Frexp_pos hQ w')
      have hL := Lib.hid (fun w' => Ldexp_pos hP'.out k w' (by omega))
      have g2 := frac_lss hQ.hf hP'.out.hf
      have hs : ∀ w', (binOp .sub 22 (.float .f64 X) (.float .f64 (Fl.W ((B * 2 ^ k : Nat) : Int)))).run Tryd.prog w' = .ok (.float .f64 (Fl.W ((R - B * 2 ^ k : Nat) : Int))) w' := by
        intro w'
        rw [← hQ.hX]
        refine run_float_arith w' .sub 22 .f64 _ _ _ ?_
        have := Fl.floatBits_sub_W (a := (R : Int)) (b := ((B * 2 ^ k : Nat) : Int)) (by omega) (by omega)
        rw [this]; congr 2; omega
      have hnew : Left A B (.float .f64 (Fl.W ((R - B * 2 ^ k : Nat) : Int))) := by
        refine ⟨_, by omega, ?_, rfl⟩
        rw [← hR1]
        have : R = (R - B * 2 ^ k) + B * 2 ^ k := by omega
        conv => rhs; rw [this]
        rw [Nat.add_mul_mod_self_left]
      have hless : Fl.W ((R - B * 2 ^ k : Nat) : Int) < Fl.W (R : Int) := W_nat_lt (by omega) hR0 (by omega)
      have hnew' := Lib.hid hnew
      have hless' := Lib.hid hless
      have er0 : 0 ≤ (er : Int) := by omega
      have er1 : (er : Int) ≤ 1075 := by have := hQ.he1; omega
      have ey0 : 0 ≤ (ey : Int) := by omega
      have ey1 : (ey : Int) ≤ 1075 := by have := hP'.out.he1; omega
      have hXe := hQ.hX
      rw [hXe] at g1 hless' ⊢
      clear hXe hRn hBn hR1 hQ hk1 hk2 hnew hless hR0 hle
      generalize Fl.W ((R - B * 2 ^ k : Nat) : Int) = Z at *
      generalize Fl.W ((B * 2 ^ k : Nat) : Int) = V at *
      rcases hk with ⟨c, hk⟩ | ⟨c, hk⟩
      · rw [decide_eq_true c] at g2
        have hk' := Lib.hid (show (er : Int) - 1023 - ((ey : Int) - 1023 + 1) = (k : Int) by omega)
        clear c hk
        go_wp2_with (go_at_call 174; refine (hF.out _).mono ?_; rintro e w' ⟨rfl, rfl⟩)
        rw [hk'.out]
        refine (hL.out _).mono ?_; rintro e w' ⟨rfl, rfl⟩
        go_wp2
        go_round
        case rel => exact hnew'.out
        case measure => exact hless'.out
      · rw [decide_eq_false c] at g2
        have hk' := Lib.hid hk
        clear c hk
        go_wp2_with (go_at_call 174; refine (hF.out _).mono ?_; rintro e w' ⟨rfl, rfl⟩)
        rw [hk'.out]
        refine (hL.out _).mono ?_; rintro e w' ⟨rfl, rfl⟩
        go_wp2
        go_round
        case rel => exact hnew'.out
        case measure => exact hless'.out
    · rw [decide_eq_false (by omega)] at g1
      have hfin := Lib.hid (show R = A % B by rw [← hR1, Nat.mod_eq_of_lt (by omega)])
      have hres : Op.negFloat .f64 (Fl.W (R : Int)) = if A % B = 0 then 9223372036854775808 else Fl.W (-((A % B : Nat) : Int)) := by
        rw [← hfin.out]
        by_cases hz : R = 0
        · rw [if_pos hz, hz]; decide
        · rw [if_neg hz]; exact Fl.neg_W (by omega) hRn
      have hres' := Lib.hid hres
      clear hle hR1 hR0 hRn hBn hres
      go_wp2
      go_ret
      exact ⟨by rw [hT'.out, ← hres'.out]; rfl, rfl⟩

theorem mod_calls (a b : Int) (ha : a.natAbs < 9007199254740992) (hb0 : b ≠ 0) (hb : b.natAbs < 9007199254740992) (w : World) :
    Calls Tryd.prog 153 #[.float .f64 (Fl.W a), .float .f64 (Fl.W b)] w fun r w' => r = .returned (.float .f64 (modV a b)) ∧ w = w' := by
  have ht := Int.natAbs_tmod a b
  by_cases h : 0 ≤ a
  · have e : modV a b = Fl.W ((a.natAbs % b.natAbs : Nat) : Int) := by
      unfold modV
      have h0 : 0 ≤ a.tmod b := Int.tmod_nonneg b h
      rw [if_neg (by omega)]; congr 1; omega
    rw [e]
    have := mod_nonneg a.natAbs b.natAbs b ha rfl (by omega) hb w
    rwa [show ((a.natAbs : Nat) : Int) = a from by omega] at this
  · have e : modV a b = if a.natAbs % b.natAbs = 0 then 9223372036854775808 else Fl.W (-((a.natAbs % b.natAbs : Nat) : Int)) := by
      unfold modV
      have h0 : a.tmod b ≤ 0 := by
        have := Int.tmod_nonneg b (a := -a) (by omega)
        rw [Int.neg_tmod] at this; omega
      by_cases hz : a.natAbs % b.natAbs = 0
      · rw [if_pos hz, if_pos ⟨by omega, by omega⟩]
      · rw [if_neg hz, if_neg (by omega)]; congr 1; omega
    rw [e]
    have := mod_neg a.natAbs b.natAbs b (by omega) ha rfl (by omega) hb w
    rwa [show (-((a.natAbs : Nat) : Int)) = a from by omega] at this

theorem Mod_calls (a b : Int) (ha : a.natAbs < 9007199254740992) (hb0 : b ≠ 0) (hb : b.natAbs < 9007199254740992) (w : World) :
    Calls Tryd.prog 118 #[.float .f64 (Fl.W a), .float .f64 (Fl.W b)] w fun r w' => r = .returned (.float .f64 (modV a b)) ∧ w = w' := by
  have hF := Lib.hid (fun w' => mod_calls a b ha hb0 hb w')
  clear ha hb0 hb
  go_enter Tryd.func118, Tryd.ntmps118
  go_wp2_with (go_at_call 153; refine (hF.out _).mono ?_; rintro e w' ⟨rfl, rfl⟩)
  go_ret
  exact ⟨rfl, rfl⟩
end Go.Proofs.YtajmdpndbfmdmaaDoor
namespace Go.Proofs.YtajmdpndbfmdmaaDoor
open Go Go.RowKit

/-- What an operation gives: a float that fits, and an error's number. -/
def OpPost (p : Option Int × Int) (w : World) (e : Ending) (w' : World) : Prop :=
  ∃ z, e = .returned (.tuple #[.float .f64 z, .int .i64 p.2]) ∧ Fl.Fits z p.1 ∧ Below w.heap.size w w'

theorem done_any (R : Nat) (p : Option Int × Int) (w : World) (h : Fl.Done R p) :
    Calls Tryd.prog 117 #[.float .f64 R] w fun e w' => OpPost p w e w' ∧ w = w' := by
  have hM := Lib.hid (fun w' => may_any R w' h.1)
  rcases h.2 with ⟨m, hF, hp⟩ | ⟨m, hp⟩
  · rw [m] at hM
    have hF' := Lib.hid hF
    have hp' := Lib.hid hp
    clear h m hF hp
    go_enter Tryd.func117, Tryd.ntmps117
    go_wp2_with (go_at_call 45; refine (hM.out _).mono ?_; rintro e w' ⟨rfl, rfl⟩)
    go_ret2
    exact ⟨⟨R, by rw [hp'.out]; rfl, hF'.out, Below.refl _ _⟩, rfl⟩
  · rw [m] at hM
    have hp' := Lib.hid hp
    clear h m hp
    go_enter Tryd.func117, Tryd.ntmps117
    go_wp2_with (go_at_call 45; refine (hM.out _).mono ?_; rintro e w' ⟨rfl, rfl⟩)
    go_ret2
    exact ⟨⟨0, by rw [hp'.out]; rfl, by rw [hp'.out]; exact Fl.fits_zero, Below.refl _ _⟩, rfl⟩

theorem Add_any (x y : Nat) (w : World) (hx : x < 18446744073709551616) (hy : y < 18446744073709551616) :
    Calls Tryd.prog 69 #[.float .f64 x, .float .f64 y] w (OpPost (Fl.two Fl.addS x y) w) := by
  have hM := Lib.hid (fun w' => may_any x w' hx)
  have hK := Lib.hid (fun w' => may_any y w' hy)
  cases m1 : Fl.may x with
  | false =>
    rw [m1] at hM
    rw [Fl.two_bad (.inl m1)]
    clear m1 hx hy
    go_enter Tryd.func69, Tryd.ntmps69
    go_wp2_with fail
    refine (hM.out _).mono ?_; rintro e w' ⟨rfl, rfl⟩
    go_wp2_with fail
    go_ret2
    exact ⟨0, rfl, Fl.fits_zero, Below.refl _ _⟩
  | true =>
    rw [m1] at hM
    cases m2 : Fl.may y with
    | false =>
      rw [m2] at hK
      rw [Fl.two_bad (.inr m2)]
      clear m1 m2 hx hy
      go_enter Tryd.func69, Tryd.ntmps69
      go_wp2_with fail
      refine (hM.out _).mono ?_; rintro e w' ⟨rfl, rfl⟩
      go_wp2_with fail
      refine (hK.out _).mono ?_; rintro e w' ⟨rfl, rfl⟩
      go_wp2_with fail
      go_ret2
      exact ⟨0, rfl, Fl.fits_zero, Below.refl _ _⟩
    | true =>
      rw [m2] at hK
      by_cases hn : Fl.isN x = true ∨ Fl.isN y = true
      · rw [Fl.two_nan m1 m2 (hn.imp Fl.isN_num? Fl.isN_num?)]
        obtain ⟨r, hr1, hr2, hrun⟩ := Fl.run_nan (P := Tryd.prog) .add 22 x y (Or.inl rfl) (Fl.add_none hx hy hn) w
        have hD := Lib.hid (fun w' => done_any r (none, 0) w' (Fl.done_nan hr1 hr2))
        clear m1 m2 hx hy hn hr1 hr2
        go_enter Tryd.func69, Tryd.ntmps69
        go_wp2_with fail
        refine (hM.out _).mono ?_; rintro e w' ⟨rfl, rfl⟩
        go_wp2_with fail
        refine (hK.out _).mono ?_; rintro e w' ⟨rfl, rfl⟩
        go_wp2_with fail
        refine (hD.out _).mono ?_; rintro e w' ⟨⟨z, rfl, hz, hb⟩, rfl⟩
        have hz' := Lib.hid hz
        clear hz hb
        go_wp2_with fail
        go_ret2
        exact ⟨z, rfl, hz'.out, (Below.refl _ _).drew⟩
      · obtain ⟨a, ha, ea, na⟩ : ∃ a : Int, a.natAbs < 9007199254740992 ∧ x = Fl.W a ∧ Fl.num? x = some a := by
          cases Fl.make_of x with
          | nan h _ _ => exact absurd (.inl h) hn
          | int n h e h2 _ _ => exact ⟨n, h, e, h2⟩
          | bad _ _ h => rw [h] at m1; cases m1
        obtain ⟨b, hb, eb, nb⟩ : ∃ a : Int, a.natAbs < 9007199254740992 ∧ y = Fl.W a ∧ Fl.num? y = some a := by
          cases Fl.make_of y with
          | nan h _ _ => exact absurd (.inr h) hn
          | int n h e h2 _ _ => exact ⟨n, h, e, h2⟩
          | bad _ _ h => rw [h] at m2; cases m2
        rw [Fl.two_int m1 m2 na nb]
        subst ea
        subst eb
        have hrun := fun w' => run_float_arith (P := Tryd.prog) w' .add 22 .f64 _ _ _ (Fl.floatBits_add_W ha hb)
        have hD := Lib.hid (fun w' => done_any _ (Fl.addS a b) w' (Fl.done_W _))
        obtain ⟨R, hR⟩ : ∃ R, R = Fl.W (a + b) := ⟨_, rfl⟩
        rw [← hR] at hrun hD
        obtain ⟨p, hp⟩ : ∃ p, p = Fl.addS a b := ⟨_, rfl⟩
        rw [← hp] at hD ⊢
        clear m1 m2 hx hy hn ha hb na nb hR hp
        go_enter Tryd.func69, Tryd.ntmps69
        go_wp2_with fail
        refine (hM.out _).mono ?_; rintro e w' ⟨rfl, rfl⟩
        go_wp2_with fail
        refine (hK.out _).mono ?_; rintro e w' ⟨rfl, rfl⟩
        go_wp2_with fail
        refine (hD.out _).mono ?_; rintro e w' ⟨⟨z, rfl, hz, hb⟩, rfl⟩
        have hz' := Lib.hid hz
        clear hz hb
        go_wp2_with fail
        go_ret2
        exact ⟨z, rfl, hz'.out, Below.refl _ _⟩

theorem Mul_any (x y : Nat) (w : World) (hx : x < 18446744073709551616) (hy : y < 18446744073709551616) :
    Calls Tryd.prog 70 #[.float .f64 x, .float .f64 y] w (OpPost (Fl.two Fl.mulS x y) w) := by
  have hM := Lib.hid (fun w' => may_any x w' hx)
  have hK := Lib.hid (fun w' => may_any y w' hy)
  cases m1 : Fl.may x with
  | false =>
    rw [m1] at hM
    rw [Fl.two_bad (.inl m1)]
    clear m1 hx hy
    go_enter Tryd.func70, Tryd.ntmps70
    go_wp2_with fail
    refine (hM.out _).mono ?_; rintro e w' ⟨rfl, rfl⟩
    go_wp2_with fail
    go_ret2
    exact ⟨0, rfl, Fl.fits_zero, Below.refl _ _⟩
  | true =>
    rw [m1] at hM
    cases m2 : Fl.may y with
    | false =>
      rw [m2] at hK
      rw [Fl.two_bad (.inr m2)]
      clear m1 m2 hx hy
      go_enter Tryd.func70, Tryd.ntmps70
      go_wp2_with fail
      refine (hM.out _).mono ?_; rintro e w' ⟨rfl, rfl⟩
      go_wp2_with fail
      refine (hK.out _).mono ?_; rintro e w' ⟨rfl, rfl⟩
      go_wp2_with fail
      go_ret2
      exact ⟨0, rfl, Fl.fits_zero, Below.refl _ _⟩
    | true =>
      rw [m2] at hK
      by_cases hn : Fl.isN x = true ∨ Fl.isN y = true
      · rw [Fl.two_nan m1 m2 (hn.imp Fl.isN_num? Fl.isN_num?)]
        obtain ⟨r, hr1, hr2, hrun⟩ := Fl.run_nan (P := Tryd.prog) .mul 22 x y (Or.inr (Or.inr (Or.inl rfl))) (Fl.mul_none hx hy hn) w
        have hD := Lib.hid (fun w' => done_any r (none, 0) w' (Fl.done_nan hr1 hr2))
        clear m1 m2 hx hy hn hr1 hr2
        go_enter Tryd.func70, Tryd.ntmps70
        go_wp2_with fail
        refine (hM.out _).mono ?_; rintro e w' ⟨rfl, rfl⟩
        go_wp2_with fail
        refine (hK.out _).mono ?_; rintro e w' ⟨rfl, rfl⟩
        go_wp2_with fail
        refine (hD.out _).mono ?_; rintro e w' ⟨⟨z, rfl, hz, hb⟩, rfl⟩
        have hz' := Lib.hid hz
        clear hz hb
        go_wp2_with fail
        go_ret2
        exact ⟨z, rfl, hz'.out, (Below.refl _ _).drew⟩
      · obtain ⟨a, ha, ea, na⟩ : ∃ a : Int, a.natAbs < 9007199254740992 ∧ x = Fl.W a ∧ Fl.num? x = some a := by
          cases Fl.make_of x with
          | nan h _ _ => exact absurd (.inl h) hn
          | int n h e h2 _ _ => exact ⟨n, h, e, h2⟩
          | bad _ _ h => rw [h] at m1; cases m1
        obtain ⟨b, hb, eb, nb⟩ : ∃ a : Int, a.natAbs < 9007199254740992 ∧ y = Fl.W a ∧ Fl.num? y = some a := by
          cases Fl.make_of y with
          | nan h _ _ => exact absurd (.inr h) hn
          | int n h e h2 _ _ => exact ⟨n, h, e, h2⟩
          | bad _ _ h => rw [h] at m2; cases m2
        rw [Fl.two_int m1 m2 na nb]
        subst ea
        subst eb
        have hrun := fun w' => run_float_arith (P := Tryd.prog) w' .mul 22 .f64 _ _ _ (Fl.mul_W ha hb)
        have hD := Lib.hid (fun w' => done_any _ (Fl.mulS a b) w' (Fl.done_mul))
        obtain ⟨R, hR⟩ : ∃ R, R = (if a * b = 0 then (if a < 0 ∨ b < 0 then 9223372036854775808 else Fl.W 0) else Fl.W (a * b)) := ⟨_, rfl⟩
        rw [← hR] at hrun hD
        obtain ⟨p, hp⟩ : ∃ p, p = Fl.mulS a b := ⟨_, rfl⟩
        rw [← hp] at hD ⊢
        clear m1 m2 hx hy hn ha hb na nb hR hp
        go_enter Tryd.func70, Tryd.ntmps70
        go_wp2_with fail
        refine (hM.out _).mono ?_; rintro e w' ⟨rfl, rfl⟩
        go_wp2_with fail
        refine (hK.out _).mono ?_; rintro e w' ⟨rfl, rfl⟩
        go_wp2_with fail
        refine (hD.out _).mono ?_; rintro e w' ⟨⟨z, rfl, hz, hb⟩, rfl⟩
        have hz' := Lib.hid hz
        clear hz hb
        go_wp2_with fail
        go_ret2
        exact ⟨z, rfl, hz'.out, Below.refl _ _⟩
end Go.Proofs.YtajmdpndbfmdmaaDoor
namespace Go.Proofs.YtajmdpndbfmdmaaDoor
open Go Go.RowKit

theorem nan_const : Fl.isN 9221120237041090561 = true := by decide

/-- math.Mod where one of the two is no number (and the second one is not nought). -/
theorem mod_nan (x y : Nat) (hx : x < 18446744073709551616) (hy : y < 18446744073709551616) (h : Fl.isN x = true ∨ Fl.isN y = true) (hi : Fl.flt 9218868437227405311 (x % 9223372036854775808) = false) (hz : Fl.feq y 0 = false) (w : World) :
    Calls Tryd.prog 118 #[.float .f64 x, .float .f64 y] w fun r w' => r = .returned (.float .f64 9221120237041090561) ∧ w = w' := by
  have hI := isInf_any x
  rw [hi] at hI
  have hI' := Lib.hid (fun w' => hI w' hx)
  have hX := Lib.hid (fun w' => isNaN_any x w' hx)
  have hY := Lib.hid (fun w' => isNaN_any y w' hy)
  have hN := Lib.hid (fun w' => nan_any w')
  have h1 := Fl.ord_eql hy (y := 0) (by omega)
  rw [hz] at h1
  have hM : ∀ w', Calls Tryd.prog 153 #[.float .f64 x, .float .f64 y] w' fun r w'' => r = .returned (.float .f64 9221120237041090561) ∧ w' = w'' := by
    intro w'
    cases e1 : Fl.isN x with
    | true =>
      rw [e1] at hX
      clear hI hx hy h hi hz e1
      go_enter Tryd.func153, Tryd.ntmps153
      go_wp2_with (go_at_call 172; refine (hI'.out _).mono ?_; rintro e w' ⟨rfl, rfl⟩)
      refine (hX.out _).mono ?_; rintro e w' ⟨rfl, rfl⟩
      go_wp2_with (go_at_call 96; refine (hN.out _).mono ?_; rintro e w' ⟨rfl, rfl⟩)
      go_ret
      exact ⟨rfl, rfl⟩
    | false =>
      have e2 : Fl.isN y = true := by rcases h with h | h; rw [e1] at h; cases h; exact h
      rw [e1] at hX
      rw [e2] at hY
      clear hI hx hy h hi hz e1 e2
      go_enter Tryd.func153, Tryd.ntmps153
      go_wp2_with (go_at_call 172; refine (hI'.out _).mono ?_; rintro e w' ⟨rfl, rfl⟩)
      refine (hX.out _).mono ?_; rintro e w' ⟨rfl, rfl⟩
      go_wp2_with fail
      refine (hY.out _).mono ?_; rintro e w' ⟨rfl, rfl⟩
      go_wp2_with (go_at_call 96; refine (hN.out _).mono ?_; rintro e w' ⟨rfl, rfl⟩)
      go_ret
      exact ⟨rfl, rfl⟩
  have hM' := Lib.hid hM
  clear hI hx hy h hi hz hM h1
  go_enter Tryd.func118, Tryd.ntmps118
  go_wp2_with (go_at_call 153; refine (hM'.out _).mono ?_; rintro e w' ⟨rfl, rfl⟩)
  go_ret
  exact ⟨rfl, rfl⟩

/-- What may is no infinity. -/
theorem may_noinf {x : Nat} (hx : x < 18446744073709551616) (h : Fl.may x = true) : Fl.flt 9218868437227405311 (x % 9223372036854775808) = false := by
  cases Fl.make_of x with
  | nan hN _ _ => unfold Fl.flt; rw [Fl.isN_mod, hN]; simp
  | int n hn e _ _ _ =>
    subst e
    rw [abs_W hn]
    unfold Fl.flt
    have h1 := (Fl.key_W_bounds (n := (n.natAbs : Int)) (by omega)).2
    rw [show Fl.key 9218868437227405311 = 9218868437227405311 from by decide, decide_eq_false (by omega)]; simp
  | bad _ _ h' => rw [h'] at h; cases h

/-- A float that may be: a whole number, or no number. -/
theorem may_cases {x : Nat} (h : Fl.may x = true) : (Fl.isN x = true ∧ Fl.num? x = none) ∨ ∃ a : Int, a.natAbs < 9007199254740992 ∧ x = Fl.W a ∧ Fl.num? x = some a := by
  cases Fl.make_of x with
  | nan h h2 _ => exact .inl ⟨h, h2⟩
  | int n h e h2 _ _ => exact .inr ⟨n, h, e, h2⟩
  | bad _ _ h' => rw [h'] at h; cases h

theorem feq_zero_W {b : Int} (hb : b.natAbs < 9007199254740992) : Fl.feq (Fl.W b) 0 = decide (b = 0) := by
  have := Fl.feq_W hb (b := 0) (by decide)
  rwa [Fl.W_zero] at this
theorem feq_nan {x y : Nat} (h : Fl.isN x = true) : Fl.feq x y = false := by unfold Fl.feq; rw [h]; rfl

theorem modV_lt (a b : Int) : modV a b < 18446744073709551616 := by
  unfold modV; split
  · decide
  · exact W_lt_any _
theorem modV_small {a b : Int} (ha : a.natAbs < 9007199254740992) : (a.tmod b).natAbs < 9007199254740992 := by
  rw [Int.natAbs_tmod]; exact Nat.lt_of_le_of_lt (Nat.mod_le _ _) ha
theorem feq_modV {a b : Int} (ha : a.natAbs < 9007199254740992) : Fl.feq (modV a b) 0 = decide (a.tmod b = 0) := by
  unfold modV
  split
  · rename_i h; rw [decide_eq_true h.2]; decide
  · exact feq_zero_W (modV_small ha)

theorem done_modV {a b : Int} (ha : a.natAbs < 9007199254740992) (hb : b ≠ 0) : Fl.Done (modV a b) (Fl.remS a b) := by
  unfold Fl.remS modV
  rw [if_neg hb]
  split
  · exact Fl.done_nzero
  · have := Fl.done_W (a.tmod b)
    unfold Fl.lim at this
    rwa [if_pos (modV_small ha)] at this

/-- The word of a quotient of whole numbers, where Div comes to it. -/
theorem quo_word {a b : Int} (ha : a.natAbs < 9007199254740992) (hb : b.natAbs < 9007199254740992) (h : b = 0 ∨ a.tmod b = 0) (hz : ¬ (a = 0 ∧ b = 0)) :
    ∃ R, floatBits .quo .f64 (Fl.W a) (Fl.W b) = some R ∧ Fl.Done R (Fl.divS a b) := by
  unfold Fl.divS
  by_cases hb0 : b = 0
  · subst hb0
    have ha0 : a ≠ 0 := fun h => hz ⟨h, rfl⟩
    rw [if_pos rfl, if_neg ha0]
    have := Fl.div_by_zero ha
    rw [if_neg ha0] at this
    exact ⟨_, this, Fl.word_lt2 _ (by decide), .inr ⟨Fl.may_inf _, rfl⟩⟩
  · have ht : a.tmod b = 0 := h.resolve_left hb0
    rw [if_neg hb0, if_neg (by rw [ht]; simp)]
    have hab : a = a.tdiv b * b := by have := Int.tdiv_mul_add_tmod a b; omega
    by_cases ha0 : a = 0
    · subst ha0
      have := Fl.div_zero_W hb0 hb
      refine ⟨_, this, ?_⟩
      by_cases hneg : b < 0
      · rw [if_pos hneg, if_pos ⟨rfl, hneg⟩]; exact Fl.done_nzero
      · rw [if_neg hneg, if_neg (fun h => hneg h.2), Int.zero_tdiv]; exact Fl.done_W 0
    · rw [if_neg (fun h => ha0 h.1)]
      have hq0 : a.tdiv b ≠ 0 := fun h => ha0 (by rw [hab, h, Int.zero_mul])
      have hq : (a.tdiv b).natAbs < 9007199254740992 := by rw [Int.natAbs_tdiv]; exact Nat.lt_of_le_of_lt (Nat.div_le_self _ _) ha
      have := Fl.div_W hb0 hq0 (by rw [← hab]; exact ha) hb
      rw [← hab] at this
      have hd := Fl.done_W (a.tdiv b)
      unfold Fl.lim at hd
      rw [if_pos hq] at hd
      exact ⟨_, this, hd⟩

theorem divS_inexact {a b : Int} (hb : b ≠ 0) (h : a.tmod b ≠ 0) : Fl.divS a b = (some 0, 10) := by
  unfold Fl.divS; rw [if_neg hb, if_pos h]

theorem Div_any (x y : Nat) (w : World) (hx : x < 18446744073709551616) (hy : y < 18446744073709551616) :
    Calls Tryd.prog 72 #[.float .f64 x, .float .f64 y] w (OpPost (Fl.two Fl.divS x y) w) := by
  have hM := Lib.hid (fun w' => may_any x w' hx)
  have hK := Lib.hid (fun w' => may_any y w' hy)
  cases m1 : Fl.may x with
  | false =>
    rw [m1] at hM
    rw [Fl.two_bad (.inl m1)]
    clear m1 hx hy
    go_enter Tryd.func72, Tryd.ntmps72
    go_wp2_with fail
    refine (hM.out _).mono ?_; rintro e w' ⟨rfl, rfl⟩
    go_wp2_with fail
    go_ret2
    exact ⟨0, rfl, Fl.fits_zero, Below.refl _ _⟩
  | true =>
    rw [m1] at hM
    cases m2 : Fl.may y with
    | false =>
      rw [m2] at hK
      rw [Fl.two_bad (.inr m2)]
      clear m1 m2 hx hy
      go_enter Tryd.func72, Tryd.ntmps72
      go_wp2_with fail
      refine (hM.out _).mono ?_; rintro e w' ⟨rfl, rfl⟩
      go_wp2_with fail
      refine (hK.out _).mono ?_; rintro e w' ⟨rfl, rfl⟩
      go_wp2_with fail
      go_ret2
      exact ⟨0, rfl, Fl.fits_zero, Below.refl _ _⟩
    | true =>
      rw [m2] at hK
      have t1 := Fl.ord_neq hy (y := 0) (by omega)
      have t2 := Fl.ord_eql hx hx
      have t3 := Fl.ord_eql hy hy
      rw [Fl.feq_self] at t2 t3
      have hi := may_noinf hx m1
      rcases may_cases m1 with ⟨n1, q1⟩ | ⟨a, ha, ea, q1⟩
      · -- the first one is no number
        rw [Fl.two_nan m1 m2 (.inl q1)]
        obtain ⟨r, hr1, hr2, hrun⟩ := Fl.run_nan (P := Tryd.prog) .quo 22 x y (.inr (.inr (.inr rfl))) (Fl.div_none hx hy (.inl n1)) w
        have hD := Lib.hid (fun w' => done_any r (none, 0) w' (Fl.done_nan hr1 hr2))
        rw [n1] at t2
        cases z : Fl.feq y 0 with
        | true =>
          rw [z] at t1
          clear m1 m2 hx hy hr1 hr2 hi n1 q1 z
          go_enter Tryd.func72, Tryd.ntmps72
          go_wp2_with fail
          refine (hM.out _).mono ?_; rintro e w' ⟨rfl, rfl⟩
          go_wp2_with fail
          refine (hK.out _).mono ?_; rintro e w' ⟨rfl, rfl⟩
          go_wp2_with fail
          refine (hD.out _).mono ?_; rintro e w' ⟨⟨z, rfl, hz, hb⟩, rfl⟩
          have hz' := Lib.hid hz
          clear hz hb
          go_wp2_with fail
          go_ret2
          exact ⟨z, rfl, hz'.out, (Below.refl _ _).drew⟩
        | false =>
          rw [z] at t1
          have hMod := Lib.hid (fun w' => mod_nan x y hx hy (.inl n1) hi z w')
          have t4 : (FloatKind.f64.format.order 9221120237041090561 0 != some .eq) = true := by decide +kernel
          clear m1 m2 hx hy hr1 hr2 hi n1 q1 z
          go_enter Tryd.func72, Tryd.ntmps72
          go_wp2_with fail
          refine (hM.out _).mono ?_; rintro e w' ⟨rfl, rfl⟩
          go_wp2_with fail
          refine (hK.out _).mono ?_; rintro e w' ⟨rfl, rfl⟩
          go_wp2_with (go_at_call 118; refine (hMod.out _).mono ?_; rintro e w' ⟨rfl, rfl⟩)
          refine (hD.out _).mono ?_; rintro e w' ⟨⟨z, rfl, hz, hb⟩, rfl⟩
          have hz' := Lib.hid hz
          clear hz hb
          go_wp2_with fail
          go_ret2
          exact ⟨z, rfl, hz'.out, (Below.refl _ _).drew⟩
      · rcases may_cases m2 with ⟨n2, q2⟩ | ⟨b, hb, eb, q2⟩
        · -- the second one is no number
          rw [Fl.two_nan m1 m2 (.inr q2)]
          obtain ⟨r, hr1, hr2, hrun⟩ := Fl.run_nan (P := Tryd.prog) .quo 22 x y (.inr (.inr (.inr rfl))) (Fl.div_none hx hy (.inr n2)) w
          have hD := Lib.hid (fun w' => done_any r (none, 0) w' (Fl.done_nan hr1 hr2))
          rw [n2] at t3
          have hN1 : Fl.isN x = false := by rw [ea]; exact Fl.isN_W ha
          rw [hN1] at t2
          have z : Fl.feq y 0 = false := feq_nan n2
          rw [z] at t1
          have hMod := Lib.hid (fun w' => mod_nan x y hx hy (.inr n2) hi z w')
          have t4 : (FloatKind.f64.format.order 9221120237041090561 0 != some .eq) = true := by decide +kernel
          clear m1 m2 hx hy hr1 hr2 hi n2 q1 q2 z ea ha hN1
          go_enter Tryd.func72, Tryd.ntmps72
          go_wp2_with fail
          refine (hM.out _).mono ?_; rintro e w' ⟨rfl, rfl⟩
          go_wp2_with fail
          refine (hK.out _).mono ?_; rintro e w' ⟨rfl, rfl⟩
          go_wp2_with (go_at_call 118; refine (hMod.out _).mono ?_; rintro e w' ⟨rfl, rfl⟩)
          refine (hD.out _).mono ?_; rintro e w' ⟨⟨z, rfl, hz, hb⟩, rfl⟩
          have hz' := Lib.hid hz
          clear hz hb
          go_wp2_with fail
          go_ret2
          exact ⟨z, rfl, hz'.out, (Below.refl _ _).drew⟩
        · -- whole numbers
          rw [Fl.two_int m1 m2 q1 q2]
          subst ea
          subst eb
          rw [Fl.isN_W ha] at t2
          rw [Fl.isN_W hb] at t3
          rw [feq_zero_W hb] at t1
          by_cases hb0 : b = 0
          · rw [decide_eq_true hb0] at t1
            by_cases ha0 : a = 0
            · have hp : Fl.divS a b = (none, 0) := by unfold Fl.divS; rw [if_pos hb0, if_pos ha0]
              rw [hp]
              obtain ⟨r, hr1, hr2, hrun⟩ := Fl.run_nan (P := Tryd.prog) .quo 22 (Fl.W a) (Fl.W b) (.inr (.inr (.inr rfl))) (by rw [ha0, hb0, Fl.W_zero]; exact Fl.div_none_zero) w
              have hD := Lib.hid (fun w' => done_any r (none, 0) w' (Fl.done_nan hr1 hr2))
              clear m1 m2 hx hy hr1 hr2 hi q1 q2 ha hb hb0 ha0 hp t2 t3
              go_enter Tryd.func72, Tryd.ntmps72
              go_wp2_with fail
              refine (hM.out _).mono ?_; rintro e w' ⟨rfl, rfl⟩
              go_wp2_with fail
              refine (hK.out _).mono ?_; rintro e w' ⟨rfl, rfl⟩
              go_wp2_with fail
              refine (hD.out _).mono ?_; rintro e w' ⟨⟨z, rfl, hz, hb⟩, rfl⟩
              have hz' := Lib.hid hz
              clear hz hb
              go_wp2_with fail
              go_ret2
              exact ⟨z, rfl, hz'.out, (Below.refl _ _).drew⟩
            · obtain ⟨R, hR, hdn⟩ := quo_word ha hb (.inl hb0) (fun h => ha0 h.1)
              have hrun := fun w' => run_float_arith (P := Tryd.prog) w' .quo 22 .f64 _ _ _ hR
              have hD := Lib.hid (fun w' => done_any R (Fl.divS a b) w' hdn)
              obtain ⟨p, hp⟩ : ∃ p, p = Fl.divS a b := ⟨_, rfl⟩
              rw [← hp] at hD ⊢
              clear m1 m2 hx hy hi q1 q2 ha hb hb0 ha0 hp t2 t3 hR hdn
              go_enter Tryd.func72, Tryd.ntmps72
              go_wp2_with fail
              refine (hM.out _).mono ?_; rintro e w' ⟨rfl, rfl⟩
              go_wp2_with fail
              refine (hK.out _).mono ?_; rintro e w' ⟨rfl, rfl⟩
              go_wp2_with fail
              refine (hD.out _).mono ?_; rintro e w' ⟨⟨z, rfl, hz, hb⟩, rfl⟩
              have hz' := Lib.hid hz
              clear hz hb
              go_wp2_with fail
              go_ret2
              exact ⟨z, rfl, hz'.out, Below.refl _ _⟩
          · rw [decide_eq_false hb0] at t1
            have hMod := Lib.hid (fun w' => Mod_calls a b ha hb0 hb w')
            have t4 := Fl.ord_neq (modV_lt a b) (y := 0) (by omega)
            rw [feq_modV ha] at t4
            by_cases ht : a.tmod b = 0
            · rw [decide_eq_true ht] at t4
              obtain ⟨R, hR, hdn⟩ := quo_word ha hb (.inr ht) (fun h => hb0 h.2)
              have hrun := fun w' => run_float_arith (P := Tryd.prog) w' .quo 22 .f64 _ _ _ hR
              have hD := Lib.hid (fun w' => done_any R (Fl.divS a b) w' hdn)
              obtain ⟨p, hp⟩ : ∃ p, p = Fl.divS a b := ⟨_, rfl⟩
              rw [← hp] at hD ⊢
              generalize modV a b = V at hMod t4
              clear m1 m2 hx hy hi q1 q2 ha hb hb0 ht hp t2 t3 hR hdn
              go_enter Tryd.func72, Tryd.ntmps72
              go_wp2_with fail
              refine (hM.out _).mono ?_; rintro e w' ⟨rfl, rfl⟩
              go_wp2_with fail
              refine (hK.out _).mono ?_; rintro e w' ⟨rfl, rfl⟩
              go_wp2_with (go_at_call 118; refine (hMod.out _).mono ?_; rintro e w' ⟨rfl, rfl⟩)
              refine (hD.out _).mono ?_; rintro e w' ⟨⟨z, rfl, hz, hb⟩, rfl⟩
              have hz' := Lib.hid hz
              clear hz hb
              go_wp2_with fail
              go_ret2
              exact ⟨z, rfl, hz'.out, Below.refl _ _⟩
            · rw [decide_eq_false ht] at t4
              rw [divS_inexact hb0 ht]
              generalize modV a b = V at hMod t4
              clear m1 m2 hx hy hi q1 q2 ha hb hb0 ht
              go_enter Tryd.func72, Tryd.ntmps72
              go_wp2_with fail
              refine (hM.out _).mono ?_; rintro e w' ⟨rfl, rfl⟩
              go_wp2_with fail
              refine (hK.out _).mono ?_; rintro e w' ⟨rfl, rfl⟩
              go_wp2_with (go_at_call 118; refine (hMod.out _).mono ?_; rintro e w' ⟨rfl, rfl⟩)
              go_ret2
              exact ⟨0, rfl, Fl.fits_zero, Below.refl _ _⟩
end Go.Proofs.YtajmdpndbfmdmaaDoor
namespace Go.Proofs.YtajmdpndbfmdmaaDoor
open Go Go.RowKit

theorem Rem_any (x y : Nat) (w : World) (hx : x < 18446744073709551616) (hy : y < 18446744073709551616) :
    Calls Tryd.prog 73 #[.float .f64 x, .float .f64 y] w (OpPost (Fl.two Fl.remS x y) w) := by
  have hM := Lib.hid (fun w' => may_any x w' hx)
  have hK := Lib.hid (fun w' => may_any y w' hy)
  have hN := Lib.hid (fun w' => nan_any w')
  cases m1 : Fl.may x with
  | false =>
    rw [m1] at hM
    rw [Fl.two_bad (.inl m1)]
    clear m1 hx hy
    go_enter Tryd.func73, Tryd.ntmps73
    go_wp2_with fail
    refine (hM.out _).mono ?_; rintro e w' ⟨rfl, rfl⟩
    go_wp2_with fail
    go_ret2
    exact ⟨0, rfl, Fl.fits_zero, Below.refl _ _⟩
  | true =>
    rw [m1] at hM
    cases m2 : Fl.may y with
    | false =>
      rw [m2] at hK
      rw [Fl.two_bad (.inr m2)]
      clear m1 m2 hx hy
      go_enter Tryd.func73, Tryd.ntmps73
      go_wp2_with fail
      refine (hM.out _).mono ?_; rintro e w' ⟨rfl, rfl⟩
      go_wp2_with fail
      refine (hK.out _).mono ?_; rintro e w' ⟨rfl, rfl⟩
      go_wp2_with fail
      go_ret2
      exact ⟨0, rfl, Fl.fits_zero, Below.refl _ _⟩
    | true =>
      rw [m2] at hK
      have t1 := Fl.ord_eql hy (y := 0) (by omega)
      have hi := may_noinf hx m1
      cases z : Fl.feq y 0 with
      | true =>
        have hp : Fl.two Fl.remS x y = (none, 0) := by
          rcases may_cases m1 with ⟨n1, q1⟩ | ⟨a, ha, ea, q1⟩
          · exact Fl.two_nan m1 m2 (.inl q1)
          · rcases may_cases m2 with ⟨n2, q2⟩ | ⟨b, hb, eb, q2⟩
            · exact Fl.two_nan m1 m2 (.inr q2)
            · rw [Fl.two_int m1 m2 q1 q2]
              rw [eb, feq_zero_W hb] at z
              unfold Fl.remS
              rw [if_pos (of_decide_eq_true z)]
        rw [hp]
        rw [z] at t1
        clear m1 m2 hx hy hi z hp
        go_enter Tryd.func73, Tryd.ntmps73
        go_wp2_with fail
        refine (hM.out _).mono ?_; rintro e w' ⟨rfl, rfl⟩
        go_wp2_with fail
        refine (hK.out _).mono ?_; rintro e w' ⟨rfl, rfl⟩
        go_wp2_with (go_at_call 96; refine (hN.out _).mono ?_; rintro e w' ⟨rfl, rfl⟩)
        go_ret2
        exact ⟨_, rfl, ⟨nan_const, by decide⟩, Below.refl _ _⟩
      | false =>
        rw [z] at t1
        obtain ⟨V, hMod, hdn⟩ : ∃ V, (∀ w', Calls Tryd.prog 118 #[.float .f64 x, .float .f64 y] w' fun r w'' => r = .returned (.float .f64 V) ∧ w' = w'') ∧ Fl.Done V (Fl.two Fl.remS x y) := by
          rcases may_cases m1 with ⟨n1, q1⟩ | ⟨a, ha, ea, q1⟩
          · exact ⟨_, fun w' => mod_nan x y hx hy (.inl n1) hi z w', by rw [Fl.two_nan m1 m2 (.inl q1)]; exact Fl.done_nan nan_const (by decide)⟩
          · rcases may_cases m2 with ⟨n2, q2⟩ | ⟨b, hb, eb, q2⟩
            · exact ⟨_, fun w' => mod_nan x y hx hy (.inr n2) hi z w', by rw [Fl.two_nan m1 m2 (.inr q2)]; exact Fl.done_nan nan_const (by decide)⟩
            · rw [Fl.two_int m1 m2 q1 q2]
              rw [eb, feq_zero_W hb] at z
              have hb0 := of_decide_eq_false z
              rw [ea, eb]
              exact ⟨_, fun w' => Mod_calls a b ha hb0 hb w', done_modV ha hb0⟩
        have hMod' := Lib.hid hMod
        have hD := Lib.hid (fun w' => done_any V _ w' hdn)
        generalize Fl.two Fl.remS x y = p at hD ⊢
        clear m1 m2 hx hy hi z hMod hdn
        go_enter Tryd.func73, Tryd.ntmps73
        go_wp2_with fail
        refine (hM.out _).mono ?_; rintro e w' ⟨rfl, rfl⟩
        go_wp2_with fail
        refine (hK.out _).mono ?_; rintro e w' ⟨rfl, rfl⟩
        go_wp2_with (go_at_call 118; refine (hMod'.out _).mono ?_; rintro e w' ⟨rfl, rfl⟩)
        refine (hD.out _).mono ?_; rintro e w' ⟨⟨z, rfl, hz, hb⟩, rfl⟩
        have hz' := Lib.hid hz
        clear hz hb
        go_wp2_with fail
        go_ret2
        exact ⟨z, rfl, hz'.out, Below.refl _ _⟩

theorem Neg_any (x : Nat) (w : World) (hx : x < 18446744073709551616) :
    Calls Tryd.prog 71 #[.float .f64 x] w (OpPost (Fl.one Fl.negS x) w) := by
  have hM := Lib.hid (fun w' => may_any x w' hx)
  have hng : ∀ (x : Nat) (w : World), (Op.unary .neg (.float .f64 x)).run Tryd.prog w = .ok (.float .f64 (Op.negFloat .f64 x)) w := fun _ _ => rfl
  cases m1 : Fl.may x with
  | false =>
    rw [m1] at hM
    have hp : Fl.one Fl.negS x = (some 0, 2) := by unfold Fl.one; rw [m1]; rfl
    rw [hp]
    clear m1 hx hp
    go_enter Tryd.func71, Tryd.ntmps71
    go_wp2_with fail
    refine (hM.out _).mono ?_; rintro e w' ⟨rfl, rfl⟩
    go_wp2_with fail
    go_ret2
    exact ⟨0, rfl, Fl.fits_zero, Below.refl _ _⟩
  | true =>
    rw [m1] at hM
    obtain ⟨V, hV, hdn⟩ : ∃ V, Op.negFloat .f64 x = V ∧ Fl.Done V (Fl.one Fl.negS x) := by
      refine ⟨_, rfl, ?_⟩
      unfold Fl.one
      rw [m1, if_pos rfl]
      rcases may_cases m1 with ⟨n1, q1⟩ | ⟨a, ha, ea, q1⟩
      · rw [q1]
        have := Fl.isN_neg hx
        exact Fl.done_nan (by rw [this.1, n1]) this.2
      · rw [q1]
        show Fl.Done _ (Fl.negS a)
        unfold Fl.negS
        subst ea
        by_cases h0 : a = 0
        · rw [if_pos h0, h0, show Op.negFloat .f64 (Fl.W 0) = 9223372036854775808 from by decide]; exact Fl.done_nzero
        · rw [if_neg h0, Fl.neg_W h0 ha]
          have := Fl.done_W (-a)
          unfold Fl.lim at this
          rwa [if_pos (by omega)] at this
    have hD := Lib.hid (fun w' => done_any V _ w' hdn)
    generalize Fl.one Fl.negS x = p at hD ⊢
    clear m1 hx hdn
    go_enter Tryd.func71, Tryd.ntmps71
    go_wp2_with fail
    refine (hM.out _).mono ?_; rintro e w' ⟨rfl, rfl⟩
    go_wp2_with fail
    refine (hD.out _).mono ?_; rintro e w' ⟨⟨z, rfl, hz, hb⟩, rfl⟩
    have hz' := Lib.hid hz
    clear hz hb
    go_wp2_with fail
    go_ret2
    exact ⟨z, rfl, hz'.out, Below.refl _ _⟩

/-! The document's own answer. -/
/-- Two numbers, as bailiffref01.two tells them. -/
def twoV (x y : Nat) : Value :=
  if Fl.may x = true ∧ Fl.may y = true then .tuple #[.int .i64 (Fl.wholeS x).1, .int .i64 (Fl.wholeS y).1, .bool (!(Fl.wholeS x).2 || !(Fl.wholeS y).2), .int .i64 0]
  else .tuple #[.int .i64 0, .int .i64 0, .bool false, .int .i64 2]

end Go.Proofs.YtajmdpndbfmdmaaDoor
namespace Go.Proofs.YtajmdpndbfmdmaaDoor
open Go Go.RowKit

/-- bailiffref01.NaN: a NaN that the tape draws. -/
theorem refNaN_any (w : World) :
    Calls Tryd.prog 97 #[] w fun r w' => ∃ z, r = .returned (.float .f64 z) ∧ Fl.Fits z none ∧ w.drew = w' := by
  obtain ⟨r, hr1, hr2, hrun⟩ := Fl.run_nan (P := Tryd.prog) .quo 22 0 0 (.inr (.inr (.inr rfl))) Fl.div_none_zero w
  have hr := Lib.hid (And.intro hr1 hr2)
  clear hr1 hr2
  go_enter Tryd.func97, Tryd.ntmps97
  go_wp2
  go_ret
  exact ⟨r, rfl, hr.out, rfl⟩

theorem bad_of {x y : Nat} (h : ¬ (Fl.may x = true ∧ Fl.may y = true)) : Fl.may x = false ∨ Fl.may y = false := by
  cases e1 : Fl.may x <;> cases e2 : Fl.may y <;> simp_all

/-- The three ways of two floats. -/
inductive Ways (f : Int → Int → Option Int × Int) (x y : Nat) : Prop where
  | bad (h : Fl.two f x y = (some 0, 2)) (v : twoV x y = .tuple #[.int .i64 0, .int .i64 0, .bool false, .int .i64 2])
  | nan (h : Fl.two f x y = (none, 0)) (a b : Int) (v : twoV x y = .tuple #[.int .i64 a, .int .i64 b, .bool true, .int .i64 0])
  | int (a b : Int) (ha : a.natAbs < 9007199254740992) (hb : b.natAbs < 9007199254740992) (h : Fl.two f x y = f a b) (v : twoV x y = .tuple #[.int .i64 a, .int .i64 b, .bool false, .int .i64 0])

theorem ways_of (f : Int → Int → Option Int × Int) (x y : Nat) : Ways f x y := by
  by_cases h : Fl.may x = true ∧ Fl.may y = true
  · have hv : twoV x y = .tuple #[.int .i64 (Fl.wholeS x).1, .int .i64 (Fl.wholeS y).1, .bool (!(Fl.wholeS x).2 || !(Fl.wholeS y).2), .int .i64 0] := by unfold twoV; rw [if_pos h]
    rcases may_cases h.1 with ⟨n1, q1⟩ | ⟨a, ha, ea, q1⟩
    · refine .nan (Fl.two_nan h.1 h.2 (.inl q1)) _ _ (by rw [hv]; unfold Fl.wholeS Fl.wholeO; rw [q1]; rfl)
    · rcases may_cases h.2 with ⟨n2, q2⟩ | ⟨b, hb, eb, q2⟩
      · refine .nan (Fl.two_nan h.1 h.2 (.inr q2)) _ _ (by rw [hv]; unfold Fl.wholeS Fl.wholeO; rw [q1, q2]; rfl)
      · exact .int a b ha hb (Fl.two_int h.1 h.2 q1 q2) (by rw [hv]; unfold Fl.wholeS Fl.wholeO; rw [q1, q2]; rfl)
  · exact .bad (Fl.two_bad (bad_of h)) (by unfold twoV; rw [if_neg h])

end Go.Proofs.YtajmdpndbfmdmaaDoor
