/-
  math.Mod of two floats that are whole numbers is the remainder of the whole numbers. Conditions: whole numbers below 2^53, the second one not 0.
-/
import Derived.Test.YtajmdpndbfmdmaaDoorModA
import Derived.LoopTactic
namespace Go.Proofs.YtajmdpndbfmdmaaDoor
open Go Go.RowKit

/-- What math.Mod gives. -/
def modV (a b : Int) : Nat := if a < 0 ∧ a.tmod b = 0 then 9223372036854775808 else Fl.W (a.tmod b)

theorem abs_W {b : Int} (hb : b.natAbs < 9007199254740992) : Fl.W b % 9223372036854775808 = Fl.W (b.natAbs : Int) := by
  by_cases h : b = 0
  · subst h; decide
  · obtain ⟨e1, _, h2⟩ := Fl.nearest_small (decide (b < 0)) (show b.natAbs ≠ 0 by omega) hb
    obtain ⟨e2, _, _⟩ := Fl.nearest_small false (show b.natAbs ≠ 0 by omega) hb
    have hl := Fl.log_lt (show b.natAbs ≠ 0 by omega) hb
    rw [Fl.W_eq, Fl.W_eq, Int.natAbs_natCast, show decide ((b.natAbs : Int) < 0) = false from decide_eq_false (by omega), e1, e2]
    rw [(Fl.word_div _ (by omega)).2]
    rfl

theorem key_nat {n : Nat} (hn : n < 9007199254740992) : Fl.key (Fl.W (n : Int)) = (Fl.W (n : Int) : Int) ∧ Fl.W (n : Int) < 9223372036854775808 := by
  have h := abs_W (b := (n : Int)) (by omega)
  rw [Int.natAbs_natCast] at h
  have : Fl.W (n : Int) < 9223372036854775808 := by rw [← h]; exact Nat.mod_lt _ (by decide)
  exact ⟨by unfold Fl.key; rw [if_pos this], this⟩

theorem W_nat_lt {m n : Nat} (hm : m < 9007199254740992) (hn : n < 9007199254740992) (h : m < n) : Fl.W (m : Int) < Fl.W (n : Int) := by
  have := (Fl.key_W_lt (a := (m : Int)) (b := (n : Int)) (by omega) (by omega)).2 (by omega)
  rw [(key_nat hm).1, (key_nat hn).1] at this
  omega

/-- The fraction parts as floats. -/
theorem frac_lss {f g : Nat} (hf : f < 4503599627370496) (hg : g < 4503599627370496) :
    (FloatKind.f64.format.order (4602678819172646912 + f) (4602678819172646912 + g) == some .lt) = decide (f < g) := by
  rw [Fl.ord_lss (by omega) (by omega)]
  unfold Fl.flt Fl.isN Fl.key
  rw [if_pos (by omega), if_pos (by omega), decide_eq_false (by omega), decide_eq_false (by omega)]
  simp only [Bool.not_false, Bool.true_and]
  rw [decide_eq_decide]; omega

/-- One round: what is taken off, and the exponents. -/
theorem round_of {R B X er fr Y ey fy : Nat} (hR : Pos R X er fr) (hB : Pos B Y ey fy) (hle : B ≤ R) :
    ∃ k : Nat, ((fr < fy ∧ (er : Int) - 1023 + 1 - 1 - ((ey : Int) - 1023 + 1) = (k : Int)) ∨ (¬ fr < fy ∧ (er : Int) - 1023 + 1 - ((ey : Int) - 1023 + 1) = (k : Int))) ∧
      B * 2 ^ k ≤ R ∧ 0 < B * 2 ^ k := by
  obtain ⟨h1, h2, h3⟩ := Fl.takes_spec hB.h0 hR.hn hle
  have e1 : Fl.W (R : Int) % 4503599627370496 = fr := by rw [hR.hX, hR.hXe]; have := hR.hf; omega
  have e2 : Fl.W (B : Int) % 4503599627370496 = fy := by rw [hB.hX, hB.hXe]; have := hB.hf; omega
  have g1 := hR.he
  have g2 := hB.he
  rw [e1, e2] at h2
  refine ⟨Fl.takes R B, ?_, h3, Nat.mul_pos (by have := hB.h0; omega) (Nat.two_pow_pos _)⟩
  unfold Fl.takes
  rw [e1, e2]
  by_cases c : fr < fy
  · have := h2 c
    rw [if_pos c]
    exact .inl ⟨c, by omega⟩
  · rw [if_neg c]
    exact .inr ⟨c, by omega⟩

/-- What the loop keeps. -/
def Left (A B : Nat) (v : Value) : Prop := ∃ R : Nat, R < 9007199254740992 ∧ R % B = A % B ∧ v = .float .f64 (Fl.W (R : Int))
def word : Value → Nat
  | .float _ b => b
  | _ => 0

theorem mod_nonneg (A B : Nat) (b : Int) (hA : A < 9007199254740992) (hb : b.natAbs = B) (hB0 : B ≠ 0) (hB : B < 9007199254740992) (w : World) :
    Calls Tryd.prog 153 #[.float .f64 (Fl.W (A : Int)), .float .f64 (Fl.W b)] w fun r w' => r = .returned (.float .f64 (Fl.W ((A % B : Nat) : Int))) ∧ w = w' := by
  obtain ⟨T, hT⟩ : ∃ T, T = Fl.W ((A % B : Nat) : Int) := ⟨_, rfl⟩
  rw [← hT]
  have hT' := Lib.hid hT
  clear hT
  have hbn : b.natAbs < 9007199254740992 := by omega
  have hAn : (A : Int).natAbs < 9007199254740992 := by omega
  obtain ⟨Y, ey, fy, hP⟩ := pos_of hB0 hB
  have hI := isInf_any (Fl.W (A : Int))
  rw [abs_W hAn, Int.natAbs_natCast, show Fl.flt 9218868437227405311 (Fl.W (A : Int)) = false from by
    unfold Fl.flt
    have h1 := (Fl.key_W_bounds hAn).2
    rw [show Fl.key 9218868437227405311 = 9218868437227405311 from by decide, decide_eq_false (by omega)]; simp] at hI
  have hI' := Lib.hid (fun w' => hI w' (Fl.W_lt hAn))
  have hN := isNaN_any (Fl.W (A : Int))
  rw [Fl.isN_W hAn] at hN
  have hN' := Lib.hid (fun w' => hN w' (Fl.W_lt hAn))
  have hM := isNaN_any (Fl.W b)
  rw [Fl.isN_W hbn] at hM
  have hM' := Lib.hid (fun w' => hM w' (Fl.W_lt hbn))
  have hAb := abs_any (Fl.W b)
  rw [abs_W hbn, hb, hP.hX] at hAb
  have hAb' := Lib.hid (fun w' => hAb w' (Fl.W_lt hbn))
  have h1 := Fl.ord_eql (Fl.W_lt hbn) (y := 0) (by omega)
  rw [show Fl.feq (Fl.W b) 0 = false from by
    have := Fl.feq_W hbn (b := 0) (by decide)
    rw [Fl.W_zero] at this
    rw [this]; exact decide_eq_false (by omega)] at h1
  have h2 := Fl.ord_lss (Fl.W_lt hAn) (y := 0) (by omega)
  rw [show Fl.flt (Fl.W (A : Int)) 0 = false from by
    have := Fl.flt_W hAn (b := 0) (by decide)
    rw [Fl.W_zero] at this
    rw [this]; exact decide_eq_false (by omega)] at h2
  have hFy := Lib.hid (fun w' => Frexp_pos hP w')
  have hP' := Lib.hid hP
  have hA' := Lib.hid hA
  have hB' := Lib.hid hB
  clear hI hN hM hAb hP hAn hbn hA hB hb
  go_enter Tryd.func153, Tryd.ntmps153
  go_wp2_with (first | (go_at_call 172; refine (hI'.out _).mono ?_; rintro e w' ⟨rfl, rfl⟩) | (go_at_call 103; refine (hAb'.out _).mono ?_; rintro e w' ⟨rfl, rfl⟩) | (go_at_call 174; refine (hFy.out _).mono ?_; rintro e w' ⟨rfl, rfl⟩))
  refine (hN'.out _).mono ?_; rintro e w' ⟨rfl, rfl⟩
  go_wp2_with fail
  refine (hM'.out _).mono ?_; rintro e w' ⟨rfl, rfl⟩
  go_wp2_with (first | (go_at_call 103; refine (hAb'.out _).mono ?_; rintro e w' ⟨rfl, rfl⟩) | (go_at_call 174; refine (hFy.out _).mono ?_; rintro e w' ⟨rfl, rfl⟩))
  go_loop [7] (fun r => Left A B r) (fun r => word r)
  case atStart => exact ⟨A, hA'.out, rfl, rfl⟩
  case round =>
    obtain ⟨R, hR0, hR1, rfl⟩ := hrel
    have hRn : (R : Int).natAbs < 9007199254740992 := by omega
    have hBn : (B : Int).natAbs < 9007199254740992 := by have := hB'.out; omega
    have g1 := Fl.ord_geq (Fl.W_lt hRn) (Fl.W_lt hBn)
    rw [Fl.fle_W hBn hRn, hP'.out.hX] at g1
    by_cases hle : B ≤ R
    · rw [decide_eq_true (by omega)] at g1
      obtain ⟨X, er, fr, hQ⟩ := pos_of (n := R) (by omega) hR0
      obtain ⟨k, hk, hk1, hk2⟩ := round_of hQ hP'.out hle
      have hF := Lib.hid (fun w' => Frexp_pos hQ w')
      have hL := Lib.hid (fun w' => Ldexp_pos hP'.out k w' (by omega))
      have g2 := frac_lss hQ.hf hP'.out.hf
      have hs : ∀ w', (binOp .sub 22 (.float .f64 X) (.float .f64 (Fl.W ((B * 2 ^ k : Nat) : Int)))).run Tryd.prog w' = .ok (.float .f64 (Fl.W ((R - B * 2 ^ k : Nat) : Int))) w' := by
        intro w'
        rw [← hQ.hX]
        refine run_float_arith w' .sub 22 .f64 _ _ _ ?_
        have := Fl.floatBits_sub_W (a := (R : Int)) (b := ((B * 2 ^ k : Nat) : Int)) (by omega) (by omega)
        rw [this]; congr 2; omega
      have hnew : Left A B (.float .f64 (Fl.W ((R - B * 2 ^ k : Nat) : Int))) := by
        refine ⟨_, by omega, ?_, rfl⟩
        rw [← hR1]
        have : R = (R - B * 2 ^ k) + B * 2 ^ k := by omega
        conv => rhs; rw [this]
        rw [Nat.add_mul_mod_self_left]
      have hless : Fl.W ((R - B * 2 ^ k : Nat) : Int) < Fl.W (R : Int) := W_nat_lt (by omega) hR0 (by omega)
      have hnew' := Lib.hid hnew
      have hless' := Lib.hid hless
      have er0 : 0 ≤ (er : Int) := by omega
      have er1 : (er : Int) ≤ 1075 := by have := hQ.he1; omega
      have ey0 : 0 ≤ (ey : Int) := by omega
      have ey1 : (ey : Int) ≤ 1075 := by have := hP'.out.he1; omega
      have hXe := hQ.hX
      rw [hXe] at g1 hless' ⊢
      clear hXe hRn hBn hR1 hQ hk1 hk2 hnew hless hR0 hle
      generalize Fl.W ((R - B * 2 ^ k : Nat) : Int) = Z at *
      generalize Fl.W ((B * 2 ^ k : Nat) : Int) = V at *
      rcases hk with ⟨c, hk⟩ | ⟨c, hk⟩
      · rw [decide_eq_true c] at g2
        have hk' := Lib.hid (show (er : Int) - 1023 - ((ey : Int) - 1023 + 1) = (k : Int) by omega)
        clear c hk
        go_wp2_with (go_at_call 174; refine (hF.out _).mono ?_; rintro e w' ⟨rfl, rfl⟩)
        rw [hk'.out]
        refine (hL.out _).mono ?_; rintro e w' ⟨rfl, rfl⟩
        go_wp2
        go_round
        case rel => exact hnew'.out
        case measure => exact hless'.out
      · rw [decide_eq_false c] at g2
        have hk' := Lib.hid hk
        clear c hk
        go_wp2_with (go_at_call 174; refine (hF.out _).mono ?_; rintro e w' ⟨rfl, rfl⟩)
        rw [hk'.out]
        refine (hL.out _).mono ?_; rintro e w' ⟨rfl, rfl⟩
        go_wp2
        go_round
        case rel => exact hnew'.out
        case measure => exact hless'.out
    · rw [decide_eq_false (by omega)] at g1
      have hfin := Lib.hid (show R = A % B by rw [← hR1, Nat.mod_eq_of_lt (by omega)])
      clear hle hR1 hR0 hRn hBn
      go_wp2
      go_ret
      exact ⟨by rw [hT'.out, ← hfin.out]; rfl, rfl⟩
theorem mod_neg (A B : Nat) (b : Int) (hA0 : A ≠ 0) (hA : A < 9007199254740992) (hb : b.natAbs = B) (hB0 : B ≠ 0) (hB : B < 9007199254740992) (w : World) :
    Calls Tryd.prog 153 #[.float .f64 (Fl.W (-(A : Int))), .float .f64 (Fl.W b)] w fun r w' => r = .returned (.float .f64 (if A % B = 0 then 9223372036854775808 else Fl.W (-((A % B : Nat) : Int)))) ∧ w = w' := by
  obtain ⟨T, hT⟩ : ∃ T, T = if A % B = 0 then 9223372036854775808 else Fl.W (-((A % B : Nat) : Int)) := ⟨_, rfl⟩
  rw [← hT]
  have hT' := Lib.hid hT
  clear hT
  have hbn : b.natAbs < 9007199254740992 := by omega
  have hAn : (-(A : Int)).natAbs < 9007199254740992 := by omega
  have hneg := Fl.neg_W (n := -(A : Int)) (by omega) hAn
  rw [Int.neg_neg] at hneg
  have hng : ∀ (x : Nat) (w : World), (Op.unary .neg (.float .f64 x)).run Tryd.prog w = .ok (.float .f64 (Op.negFloat .f64 x)) w := fun _ _ => rfl
  obtain ⟨Y, ey, fy, hP⟩ := pos_of hB0 hB
  have hI := isInf_any (Fl.W (-(A : Int)))
  rw [abs_W hAn, Int.natAbs_neg, Int.natAbs_natCast, show Fl.flt 9218868437227405311 (Fl.W (A : Int)) = false from by
    unfold Fl.flt
    have h1 := (Fl.key_W_bounds (n := (A : Int)) (by omega)).2
    rw [show Fl.key 9218868437227405311 = 9218868437227405311 from by decide, decide_eq_false (by omega)]; simp] at hI
  have hI' := Lib.hid (fun w' => hI w' (Fl.W_lt hAn))
  have hN := isNaN_any (Fl.W (-(A : Int)))
  rw [Fl.isN_W hAn] at hN
  have hN' := Lib.hid (fun w' => hN w' (Fl.W_lt hAn))
  have hM := isNaN_any (Fl.W b)
  rw [Fl.isN_W hbn] at hM
  have hM' := Lib.hid (fun w' => hM w' (Fl.W_lt hbn))
  have hAb := abs_any (Fl.W b)
  rw [abs_W hbn, hb, hP.hX] at hAb
  have hAb' := Lib.hid (fun w' => hAb w' (Fl.W_lt hbn))
  have h1 := Fl.ord_eql (Fl.W_lt hbn) (y := 0) (by omega)
  rw [show Fl.feq (Fl.W b) 0 = false from by
    have := Fl.feq_W hbn (b := 0) (by decide)
    rw [Fl.W_zero] at this
    rw [this]; exact decide_eq_false (by omega)] at h1
  have h2 := Fl.ord_lss (Fl.W_lt hAn) (y := 0) (by omega)
  rw [show Fl.flt (Fl.W (-(A : Int))) 0 = true from by
    have := Fl.flt_W hAn (b := 0) (by decide)
    rw [Fl.W_zero] at this
    rw [this]; exact decide_eq_true (by omega)] at h2
  have hFy := Lib.hid (fun w' => Frexp_pos hP w')
  have hP' := Lib.hid hP
  have hA' := Lib.hid hA
  have hB' := Lib.hid hB
  clear hI hN hM hAb hP hAn hbn hA hB hb
  go_enter Tryd.func153, Tryd.ntmps153
  go_wp2_with (first | (go_at_call 172; refine (hI'.out _).mono ?_; rintro e w' ⟨rfl, rfl⟩) | (go_at_call 103; refine (hAb'.out _).mono ?_; rintro e w' ⟨rfl, rfl⟩) | (go_at_call 174; refine (hFy.out _).mono ?_; rintro e w' ⟨rfl, rfl⟩))
  refine (hN'.out _).mono ?_; rintro e w' ⟨rfl, rfl⟩
  go_wp2_with fail
  refine (hM'.out _).mono ?_; rintro e w' ⟨rfl, rfl⟩
  go_wp2_with (first | (go_at_call 103; refine (hAb'.out _).mono ?_; rintro e w' ⟨rfl, rfl⟩) | (go_at_call 174; refine (hFy.out _).mono ?_; rintro e w' ⟨rfl, rfl⟩))
  go_loop [7] (fun r => Left A B r) (fun r => word r)
  case atStart => exact ⟨A, hA'.out, rfl, rfl⟩
  case round =>
    obtain ⟨R, hR0, hR1, rfl⟩ := hrel
    have hRn : (R : Int).natAbs < 9007199254740992 := by omega
    have hBn : (B : Int).natAbs < 9007199254740992 := by have := hB'.out; omega
    have g1 := Fl.ord_geq (Fl.W_lt hRn) (Fl.W_lt hBn)
    rw [Fl.fle_W hBn hRn, hP'.out.hX] at g1
    by_cases hle : B ≤ R
    · rw [decide_eq_true (by omega)] at g1
      obtain ⟨X, er, fr, hQ⟩ := pos_of (n := R) (by omega) hR0
      obtain ⟨k, hk, hk1, hk2⟩ := round_of hQ hP'.out hle
      have hF := Lib.hid (fun w' => Frexp_pos hQ w')
      have hL := Lib.hid (fun w' => Ldexp_pos hP'.out k w' (by omega))
      have g2 := frac_lss hQ.hf hP'.out.hf
      have hs : ∀ w', (binOp .sub 22 (.float .f64 X) (.float .f64 (Fl.W ((B * 2 ^ k : Nat) : Int)))).run Tryd.prog w' = .ok (.float .f64 (Fl.W ((R - B * 2 ^ k : Nat) : Int))) w' := by
        intro w'
        rw [← hQ.hX]
        refine run_float_arith w' .sub 22 .f64 _ _ _ ?_
        have := Fl.floatBits_sub_W (a := (R : Int)) (b := ((B * 2 ^ k : Nat) : Int)) (by omega) (by omega)
        rw [this]; congr 2; omega
      have hnew : Left A B (.float .f64 (Fl.W ((R - B * 2 ^ k : Nat) : Int))) := by
        refine ⟨_, by omega, ?_, rfl⟩
        rw [← hR1]
        have : R = (R - B * 2 ^ k) + B * 2 ^ k := by omega
        conv => rhs; rw [this]
        rw [Nat.add_mul_mod_self_left]
      have hless : Fl.W ((R - B * 2 ^ k : Nat) : Int) < Fl.W (R : Int) := W_nat_lt (by omega) hR0 (by omega)
      have hnew' := Lib.hid hnew
      have hless' := Lib.hid hless
      have er0 : 0 ≤ (er : Int) := by omega
      have er1 : (er : Int) ≤ 1075 := by have := hQ.he1; omega
      have ey0 : 0 ≤ (ey : Int) := by omega
      have ey1 : (ey : Int) ≤ 1075 := by have := hP'.out.he1; omega
      have hXe := hQ.hX
      rw [hXe] at g1 hless' ⊢
      clear hXe hRn hBn hR1 hQ hk1 hk2 hnew hless hR0 hle
      generalize Fl.W ((R - B * 2 ^ k : Nat) : Int) = Z at *
      generalize Fl.W ((B * 2 ^ k : Nat) : Int) = V at *
      rcases hk with ⟨c, hk⟩ | ⟨c, hk⟩
      · rw [decide_eq_true c] at g2
        have hk' := Lib.hid (show (er : Int) - 1023 - ((ey : Int) - 1023 + 1) = (k : Int) by omega)
        clear c hk
        go_wp2_with (go_at_call 174; refine (hF.out _).mono ?_; rintro e w' ⟨rfl, rfl⟩)
        rw [hk'.out]
        refine (hL.out _).mono ?_; rintro e w' ⟨rfl, rfl⟩
        go_wp2
        go_round
        case rel => exact hnew'.out
        case measure => exact hless'.out
      · rw [decide_eq_false c] at g2
        have hk' := Lib.hid hk
        clear c hk
        go_wp2_with (go_at_call 174; refine (hF.out _).mono ?_; rintro e w' ⟨rfl, rfl⟩)
        rw [hk'.out]
        refine (hL.out _).mono ?_; rintro e w' ⟨rfl, rfl⟩
        go_wp2
        go_round
        case rel => exact hnew'.out
        case measure => exact hless'.out
    · rw [decide_eq_false (by omega)] at g1
      have hfin := Lib.hid (show R = A % B by rw [← hR1, Nat.mod_eq_of_lt (by omega)])
      have hres : Op.negFloat .f64 (Fl.W (R : Int)) = if A % B = 0 then 9223372036854775808 else Fl.W (-((A % B : Nat) : Int)) := by
        rw [← hfin.out]
        by_cases hz : R = 0
        · rw [if_pos hz, hz]; decide
        · rw [if_neg hz]; exact Fl.neg_W (by omega) hRn
      have hres' := Lib.hid hres
      clear hle hR1 hR0 hRn hBn hres
      go_wp2
      go_ret
      exact ⟨by rw [hT'.out, ← hres'.out]; rfl, rfl⟩

theorem mod_calls (a b : Int) (ha : a.natAbs < 9007199254740992) (hb0 : b ≠ 0) (hb : b.natAbs < 9007199254740992) (w : World) :
    Calls Tryd.prog 153 #[.float .f64 (Fl.W a), .float .f64 (Fl.W b)] w fun r w' => r = .returned (.float .f64 (modV a b)) ∧ w = w' := by
  have ht := Int.natAbs_tmod a b
  by_cases h : 0 ≤ a
  · have e : modV a b = Fl.W ((a.natAbs % b.natAbs : Nat) : Int) := by
      unfold modV
      have h0 : 0 ≤ a.tmod b := Int.tmod_nonneg b h
      rw [if_neg (by omega)]; congr 1; omega
    rw [e]
    have := mod_nonneg a.natAbs b.natAbs b ha rfl (by omega) hb w
    rwa [show ((a.natAbs : Nat) : Int) = a from by omega] at this
  · have e : modV a b = if a.natAbs % b.natAbs = 0 then 9223372036854775808 else Fl.W (-((a.natAbs % b.natAbs : Nat) : Int)) := by
      unfold modV
      have h0 : a.tmod b ≤ 0 := by
        have := Int.tmod_nonneg b (a := -a) (by omega)
        rw [Int.neg_tmod] at this; omega
      by_cases hz : a.natAbs % b.natAbs = 0
      · rw [if_pos hz, if_pos ⟨by omega, by omega⟩]
      · rw [if_neg hz, if_neg (by omega)]; congr 1; omega
    rw [e]
    have := mod_neg a.natAbs b.natAbs b (by omega) ha rfl (by omega) hb w
    rwa [show (-((a.natAbs : Nat) : Int)) = a from by omega] at this

theorem Mod_calls (a b : Int) (ha : a.natAbs < 9007199254740992) (hb0 : b ≠ 0) (hb : b.natAbs < 9007199254740992) (w : World) :
    Calls Tryd.prog 118 #[.float .f64 (Fl.W a), .float .f64 (Fl.W b)] w fun r w' => r = .returned (.float .f64 (modV a b)) ∧ w = w' := by
  have hF := Lib.hid (fun w' => mod_calls a b ha hb0 hb w')
  clear ha hb0 hb
  go_enter Tryd.func118, Tryd.ntmps118
  go_wp2_with (go_at_call 153; refine (hF.out _).mono ?_; rintro e w' ⟨rfl, rfl⟩)
  go_ret
  exact ⟨rfl, rfl⟩
end Go.Proofs.YtajmdpndbfmdmaaDoor
