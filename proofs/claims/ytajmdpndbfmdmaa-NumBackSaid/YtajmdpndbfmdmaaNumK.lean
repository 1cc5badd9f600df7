/-
  The document's Add, Sub, Mul, Div, Rem and Neg of numbers return what the whole numbers come to. Conditions: the arguments are words of 64 bits.
-/
import Derived.Test.YtajmdpndbfmdmaaNumJ
namespace Go.Proofs.Ytajmdpndbfmdmaa
open Go Go.RowKit

/-- bailiffref01.NaN: a NaN that the tape draws. -/
theorem refNaN_any (w : World) :
    Calls Try.prog 72 #[] w fun r w' => ∃ z, r = .returned (.float .f64 z) ∧ Fl.Fits z none ∧ w.drew = w' := by
  obtain ⟨r, hr1, hr2, hrun⟩ := Fl.run_nan (P := Try.prog) .quo 22 0 0 (.inr (.inr (.inr rfl))) Fl.div_none_zero w
  have hr := Lib.hid (And.intro hr1 hr2)
  clear hr1 hr2
  go_enter Try.func72, Try.ntmps72
  go_wp2
  go_ret
  exact ⟨r, rfl, hr.out, rfl⟩

theorem refTold_any (n : Int) (w : World) :
    Calls Try.prog 73 #[.int .i64 n] w fun e w' => OpPost (Fl.lim n) w e w' ∧ w = w' := by
  have hfw := Fl.floatOfInt_W
  unfold Fl.lim
  by_cases c1 : 9007199254740991 < n
  · rw [if_neg (by omega)]
    go_enter Try.func73, Try.ntmps73
    go_wp2
    go_ret2
    exact ⟨⟨0, rfl, Fl.fits_zero, Below.refl _ _⟩, rfl⟩
  · by_cases c2 : n < -9007199254740991
    · rw [if_neg (by omega)]
      go_enter Try.func73, Try.ntmps73
      go_wp2
      go_ret2
      exact ⟨⟨0, rfl, Fl.fits_zero, Below.refl _ _⟩, rfl⟩
    · have hn : n.natAbs < 9007199254740992 := by omega
      rw [if_pos hn]
      have hn' := Lib.hid hn
      clear hn
      go_enter Try.func73, Try.ntmps73
      go_wp2
      go_ret2
      exact ⟨⟨Fl.W n, rfl, ⟨rfl, hn'.out⟩, Below.refl _ _⟩, rfl⟩

theorem refSize_any (n : Int) (w : World) (h0 : -9007199254740992 < n) (h1 : n < 9007199254740992) :
    Calls Try.prog 74 #[.int .i64 n] w fun e w' => e = .returned (.int .i64 (n.natAbs : Int)) ∧ w = w' := by
  by_cases c : n < 0
  · have hn := Lib.hid (show (n.natAbs : Int) = -n by omega)
    go_enter Try.func74, Try.ntmps74
    go_wp2
    go_ret
    exact ⟨by rw [hn.out]; rfl, rfl⟩
  · have hn := Lib.hid (show (n.natAbs : Int) = n by omega)
    go_enter Try.func74, Try.ntmps74
    go_wp2
    go_ret
    exact ⟨by rw [hn.out]; rfl, rfl⟩

theorem bad_of {x y : Nat} (h : ¬ (Fl.may x = true ∧ Fl.may y = true)) : Fl.may x = false ∨ Fl.may y = false := by
  cases e1 : Fl.may x <;> cases e2 : Fl.may y <;> simp_all

/-- The three ways of two floats. -/
inductive Ways (f : Int → Int → Option Int × Int) (x y : Nat) : Prop where
  | bad (h : Fl.two f x y = (some 0, 2)) (v : twoV x y = .tuple #[.int .i64 0, .int .i64 0, .bool false, .int .i64 2])
  | nan (h : Fl.two f x y = (none, 0)) (a b : Int) (v : twoV x y = .tuple #[.int .i64 a, .int .i64 b, .bool true, .int .i64 0])
  | int (a b : Int) (ha : a.natAbs < 9007199254740992) (hb : b.natAbs < 9007199254740992) (h : Fl.two f x y = f a b) (v : twoV x y = .tuple #[.int .i64 a, .int .i64 b, .bool false, .int .i64 0])

theorem ways_of (f : Int → Int → Option Int × Int) (x y : Nat) : Ways f x y := by
  by_cases h : Fl.may x = true ∧ Fl.may y = true
  · have hv : twoV x y = .tuple #[.int .i64 (Fl.wholeS x).1, .int .i64 (Fl.wholeS y).1, .bool (!(Fl.wholeS x).2 || !(Fl.wholeS y).2), .int .i64 0] := by unfold twoV; rw [if_pos h]
    rcases may_cases h.1 with ⟨n1, q1⟩ | ⟨a, ha, ea, q1⟩
    · refine .nan (Fl.two_nan h.1 h.2 (.inl q1)) _ _ (by rw [hv]; unfold Fl.wholeS Fl.wholeO; rw [q1]; rfl)
    · rcases may_cases h.2 with ⟨n2, q2⟩ | ⟨b, hb, eb, q2⟩
      · refine .nan (Fl.two_nan h.1 h.2 (.inr q2)) _ _ (by rw [hv]; unfold Fl.wholeS Fl.wholeO; rw [q1, q2]; rfl)
      · exact .int a b ha hb (Fl.two_int h.1 h.2 q1 q2) (by rw [hv]; unfold Fl.wholeS Fl.wholeO; rw [q1, q2]; rfl)
  · exact .bad (Fl.two_bad (bad_of h)) (by unfold twoV; rw [if_neg h])

theorem refAdd_any (x y : Nat) (w : World) (hx : x < 18446744073709551616) (hy : y < 18446744073709551616) :
    Calls Try.prog 46 #[.float .f64 x, .float .f64 y] w (OpPost (Fl.two Fl.addS x y) w) := by
  have hT := Lib.hid (fun w' => refTwo_any x y w' hx hy)
  cases ways_of Fl.addS x y with
  | bad h v =>
    rw [v] at hT
    rw [h]
    clear v h hx hy
    go_enter Try.func46, Try.ntmps46
    go_wp2_with fail
    refine (hT.out _).mono ?_; rintro e w' ⟨rfl, rfl⟩
    go_wp2_with fail
    go_ret2
    exact ⟨0, rfl, Fl.fits_zero, Below.refl _ _⟩
  | nan h a b v =>
    rw [v] at hT
    rw [h]
    have hN := Lib.hid (refNaN_any)
    clear v h hx hy
    go_enter Try.func46, Try.ntmps46
    go_wp2_with fail
    refine (hT.out _).mono ?_; rintro e w' ⟨rfl, rfl⟩
    go_wp2_with fail
    refine (hN.out _).mono ?_; rintro e w' ⟨z, rfl, hz, rfl⟩
    have hz' := Lib.hid hz
    clear hz
    go_wp2_with fail
    go_ret2
    exact ⟨z, rfl, hz'.out, (Below.refl _ _).drew⟩
  | int a b ha hb h v =>
    rw [v] at hT
    rw [h]
    have a0 : -9007199254740992 < a := by omega
    have a1 : a < 9007199254740992 := by omega
    have b0 : -9007199254740992 < b := by omega
    have b1 : b < 9007199254740992 := by omega
    clear v h hx hy ha hb
    have hD := Lib.hid (fun w' => refTold_any (a + b) w')
    rw [show Fl.addS a b = Fl.lim (a + b) from rfl]
    obtain ⟨p, hp⟩ : ∃ p, p = Fl.lim (a + b) := ⟨_, rfl⟩
    rw [← hp] at hD ⊢
    clear hp
    go_enter Try.func46, Try.ntmps46
    go_wp2_with fail
    refine (hT.out _).mono ?_; rintro e w' ⟨rfl, rfl⟩
    go_wp2_with fail
    refine (hD.out _).mono ?_; rintro e w' ⟨⟨z, rfl, hz, hb⟩, rfl⟩
    have hz' := Lib.hid hz
    clear hz hb
    go_wp2_with fail
    go_ret2
    exact ⟨z, rfl, hz'.out, Below.refl _ _⟩

theorem refSub_any (x y : Nat) (w : World) (hx : x < 18446744073709551616) (hy : y < 18446744073709551616) :
    Calls Try.prog 47 #[.float .f64 x, .float .f64 y] w (OpPost (Fl.two Fl.subS x y) w) := by
  have hT := Lib.hid (fun w' => refTwo_any x y w' hx hy)
  cases ways_of Fl.subS x y with
  | bad h v =>
    rw [v] at hT
    rw [h]
    clear v h hx hy
    go_enter Try.func47, Try.ntmps47
    go_wp2_with fail
    refine (hT.out _).mono ?_; rintro e w' ⟨rfl, rfl⟩
    go_wp2_with fail
    go_ret2
    exact ⟨0, rfl, Fl.fits_zero, Below.refl _ _⟩
  | nan h a b v =>
    rw [v] at hT
    rw [h]
    have hN := Lib.hid (refNaN_any)
    clear v h hx hy
    go_enter Try.func47, Try.ntmps47
    go_wp2_with fail
    refine (hT.out _).mono ?_; rintro e w' ⟨rfl, rfl⟩
    go_wp2_with fail
    refine (hN.out _).mono ?_; rintro e w' ⟨z, rfl, hz, rfl⟩
    have hz' := Lib.hid hz
    clear hz
    go_wp2_with fail
    go_ret2
    exact ⟨z, rfl, hz'.out, (Below.refl _ _).drew⟩
  | int a b ha hb h v =>
    rw [v] at hT
    rw [h]
    have a0 : -9007199254740992 < a := by omega
    have a1 : a < 9007199254740992 := by omega
    have b0 : -9007199254740992 < b := by omega
    have b1 : b < 9007199254740992 := by omega
    clear v h hx hy ha hb
    have hD := Lib.hid (fun w' => refTold_any (a - b) w')
    rw [show Fl.subS a b = Fl.lim (a - b) from rfl]
    obtain ⟨p, hp⟩ : ∃ p, p = Fl.lim (a - b) := ⟨_, rfl⟩
    rw [← hp] at hD ⊢
    clear hp
    go_enter Try.func47, Try.ntmps47
    go_wp2_with fail
    refine (hT.out _).mono ?_; rintro e w' ⟨rfl, rfl⟩
    go_wp2_with fail
    refine (hD.out _).mono ?_; rintro e w' ⟨⟨z, rfl, hz, hb⟩, rfl⟩
    have hz' := Lib.hid hz
    clear hz hb
    go_wp2_with fail
    go_ret2
    exact ⟨z, rfl, hz'.out, Below.refl _ _⟩

theorem refMul_any (x y : Nat) (w : World) (hx : x < 18446744073709551616) (hy : y < 18446744073709551616) :
    Calls Try.prog 48 #[.float .f64 x, .float .f64 y] w (OpPost (Fl.two Fl.mulS x y) w) := by
  have hT := Lib.hid (fun w' => refTwo_any x y w' hx hy)
  cases ways_of Fl.mulS x y with
  | bad h v =>
    rw [v] at hT
    rw [h]
    clear v h hx hy
    go_enter Try.func48, Try.ntmps48
    go_wp2_with fail
    refine (hT.out _).mono ?_; rintro e w' ⟨rfl, rfl⟩
    go_wp2_with fail
    go_ret2
    exact ⟨0, rfl, Fl.fits_zero, Below.refl _ _⟩
  | nan h a b v =>
    rw [v] at hT
    rw [h]
    have hN := Lib.hid (refNaN_any)
    clear v h hx hy
    go_enter Try.func48, Try.ntmps48
    go_wp2_with fail
    refine (hT.out _).mono ?_; rintro e w' ⟨rfl, rfl⟩
    go_wp2_with fail
    refine (hN.out _).mono ?_; rintro e w' ⟨z, rfl, hz, rfl⟩
    have hz' := Lib.hid hz
    clear hz
    go_wp2_with fail
    go_ret2
    exact ⟨z, rfl, hz'.out, (Below.refl _ _).drew⟩
  | int a b ha hb h v =>
    rw [v] at hT
    rw [h]
    have a0 : -9007199254740992 < a := by omega
    have a1 : a < 9007199254740992 := by omega
    have b0 : -9007199254740992 < b := by omega
    have b1 : b < 9007199254740992 := by omega
    clear v h hx hy ha hb
    by_cases hz : a = 0 ∨ b = 0
    · by_cases hneg : a < 0 ∨ b < 0
      · rw [show Fl.mulS a b = (some 0, 10) from by unfold Fl.mulS; rw [if_pos ⟨Int.mul_eq_zero.2 hz, hneg⟩]]
        rcases hz with hz | hz
        · have hnb : b < 0 := by omega
          clear hneg
          subst hz
          go_enter Try.func48, Try.ntmps48
          go_wp2_with fail
          refine (hT.out _).mono ?_; rintro e w' ⟨rfl, rfl⟩
          go_wp2_with fail
          go_ret2
          exact ⟨0, rfl, Fl.fits_zero, Below.refl _ _⟩
        · have hna : a < 0 := by omega
          have hnz : (a == 0) = false := by rw [beq_eq_false_iff_ne]; omega
          clear hneg
          subst hz
          go_enter Try.func48, Try.ntmps48
          go_wp2_with fail
          refine (hT.out _).mono ?_; rintro e w' ⟨rfl, rfl⟩
          go_wp2_with fail
          go_ret2
          exact ⟨0, rfl, Fl.fits_zero, Below.refl _ _⟩
      · rw [show Fl.mulS a b = (some 0, 0) from by unfold Fl.mulS Fl.lim; rw [if_neg (fun h => hneg h.2), Int.mul_eq_zero.2 hz, if_pos (by decide)]]
        rcases hz with hz | hz
        · have hnb : ¬ b < 0 := by omega
          clear hneg
          subst hz
          go_enter Try.func48, Try.ntmps48
          go_wp2_with fail
          refine (hT.out _).mono ?_; rintro e w' ⟨rfl, rfl⟩
          go_wp2_with fail
          go_ret2
          exact ⟨0, rfl, Fl.fits_zero, Below.refl _ _⟩
        · have hna : ¬ a < 0 := by omega
          clear hneg
          subst hz
          by_cases hnz : a = 0
          · subst hnz
            go_enter Try.func48, Try.ntmps48
            go_wp2_with fail
            refine (hT.out _).mono ?_; rintro e w' ⟨rfl, rfl⟩
            go_wp2_with fail
            go_ret2
            exact ⟨0, rfl, Fl.fits_zero, Below.refl _ _⟩
          · have hnz' : (a == 0) = false := by rw [beq_eq_false_iff_ne]; omega
            go_enter Try.func48, Try.ntmps48
            go_wp2_with fail
            refine (hT.out _).mono ?_; rintro e w' ⟨rfl, rfl⟩
            go_wp2_with fail
            go_ret2
            exact ⟨0, rfl, Fl.fits_zero, Below.refl _ _⟩
    · have ha0 : a ≠ 0 := fun h => hz (.inl h)
      have hb0 : b ≠ 0 := fun h => hz (.inr h)
      have e1 : (a == 0) = false := by rw [beq_eq_false_iff_ne]; omega
      have e2 : (b == 0) = false := by rw [beq_eq_false_iff_ne]; omega
      have hS := Lib.hid (fun w' => refSize_any a w' a0 a1)
      have hU := Lib.hid (fun w' => refSize_any b w' b0 b1)
      have hm : Fl.mulS a b = Fl.lim (a * b) := by unfold Fl.mulS; rw [if_neg (fun h => hz (Int.mul_eq_zero.1 h.1))]
      rw [hm]
      have A0 : 0 ≤ (a.natAbs : Int) := by omega
      have B0 : 1 ≤ (b.natAbs : Int) := by omega
      have hab : (a * b).natAbs = a.natAbs * b.natAbs := Int.natAbs_mul a b
      by_cases c : 9007199254740991 / (b.natAbs : Int) < (a.natAbs : Int)
      · have hp : Fl.lim (a * b) = (some 0, 10) := by
          unfold Fl.lim
          rw [if_neg]
          rw [hab]
          have h1 : 9007199254740991 < (a.natAbs : Int) * (b.natAbs : Int) := Int.lt_mul_of_ediv_lt (by omega) c
          have h2 : ((a.natAbs * b.natAbs : Nat) : Int) = (a.natAbs : Int) * (b.natAbs : Int) := Int.natCast_mul _ _
          omega
        rw [hp]
        have b3 : (b.natAbs : Int) < 9007199254740992 := by omega
        have a3 : (a.natAbs : Int) < 9007199254740992 := by omega
        generalize (a.natAbs : Int) = A at *
        generalize (b.natAbs : Int) = B at *
        clear hz ha0 hb0 hm hab hp
        go_enter Try.func48, Try.ntmps48
        go_wp2_with fail
        refine (hT.out _).mono ?_; rintro e w' ⟨rfl, rfl⟩
        go_wp2_with fail
        refine (hS.out _).mono ?_; rintro e w' ⟨rfl, rfl⟩
        go_wp2_with fail
        refine (hU.out _).mono ?_; rintro e w' ⟨rfl, rfl⟩
        go_wp2_with fail
        go_ret2
        exact ⟨0, rfl, Fl.fits_zero, Below.refl _ _⟩
      · have h1 : (a.natAbs : Int) * (b.natAbs : Int) ≤ 9007199254740991 := by
          have : (a.natAbs : Int) ≤ 9007199254740991 / (b.natAbs : Int) := by omega
          exact (Int.le_ediv_iff_mul_le (by omega)).1 this
        have h2 : ((a.natAbs * b.natAbs : Nat) : Int) = (a.natAbs : Int) * (b.natAbs : Int) := Int.natCast_mul _ _
        have p0 : -9007199254740992 < a * b := by omega
        have p1 : a * b < 9007199254740992 := by omega
        have hD := Lib.hid (fun w' => refTold_any (a * b) w')
        obtain ⟨p, hp⟩ : ∃ p, p = Fl.lim (a * b) := ⟨_, rfl⟩
        rw [← hp] at hD ⊢
        have b3 : (b.natAbs : Int) < 9007199254740992 := by omega
        have a3 : (a.natAbs : Int) < 9007199254740992 := by omega
        clear h1 h2 hz ha0 hb0 hm hab hp
        generalize (a.natAbs : Int) = A at *
        generalize (b.natAbs : Int) = B at *
        obtain ⟨M, hM⟩ : ∃ M, M = a * b := ⟨_, rfl⟩
        have hM' : a * b = M := hM.symm
        rw [hM'] at p0 p1 hD
        clear hM
        go_enter Try.func48, Try.ntmps48
        go_wp2_with fail
        refine (hT.out _).mono ?_; rintro e w' ⟨rfl, rfl⟩
        go_wp2_with fail
        refine (hS.out _).mono ?_; rintro e w' ⟨rfl, rfl⟩
        go_wp2_with fail
        refine (hU.out _).mono ?_; rintro e w' ⟨rfl, rfl⟩
        go_wp2_with fail
        refine (hD.out _).mono ?_; rintro e w' ⟨⟨z, rfl, hz, hb⟩, rfl⟩
        have hz' := Lib.hid hz
        clear hz hb
        go_wp2_with fail
        go_ret2
        exact ⟨z, rfl, hz'.out, Below.refl _ _⟩
end Go.Proofs.Ytajmdpndbfmdmaa
