/-
  The document's Div, Rem and Neg of numbers return what the whole numbers come to. Conditions: the arguments are words of 64 bits.
-/
import Derived.Test.YtajmdpndbfmdmaaNumK
namespace Go.Proofs.Ytajmdpndbfmdmaa
open Go Go.RowKit

theorem refDiv_any (x y : Nat) (w : World) (hx : x < 18446744073709551616) (hy : y < 18446744073709551616) :
    Calls Try.prog 49 #[.float .f64 x, .float .f64 y] w (OpPost (Fl.two Fl.divS x y) w) := by
  have hT := Lib.hid (fun w' => refTwo_any x y w' hx hy)
  cases ways_of Fl.divS x y with
  | bad h v =>
    rw [v] at hT
    rw [h]
    clear v h hx hy
    go_enter Try.func49, Try.ntmps49
    go_wp2_with fail
    refine (hT.out _).mono ?_; rintro e w' ⟨rfl, rfl⟩
    go_wp2_with fail
    go_ret2
    exact ⟨0, rfl, Fl.fits_zero, Below.refl _ _⟩
  | nan h a b v =>
    rw [v] at hT
    rw [h]
    have hN := Lib.hid (refNaN_any)
    clear v h hx hy
    go_enter Try.func49, Try.ntmps49
    go_wp2_with fail
    refine (hT.out _).mono ?_; rintro e w' ⟨rfl, rfl⟩
    go_wp2_with fail
    refine (hN.out _).mono ?_; rintro e w' ⟨z, rfl, hz, rfl⟩
    have hz' := Lib.hid hz
    clear hz
    go_wp2_with fail
    go_ret2
    exact ⟨z, rfl, hz'.out, (Below.refl _ _).drew⟩
  | int a b ha hb h v =>
    rw [v] at hT
    rw [h]
    have a0 : -9007199254740992 < a := by omega
    have a1 : a < 9007199254740992 := by omega
    have b0 : -9007199254740992 < b := by omega
    have b1 : b < 9007199254740992 := by omega
    clear v h hx hy ha hb
    have hN := Lib.hid (refNaN_any)
    by_cases hb0 : b = 0
    · by_cases ha0 : a = 0
      · rw [show Fl.divS a b = (none, 0) from by unfold Fl.divS; rw [if_pos hb0, if_pos ha0]]
        subst ha0
        subst hb0
        go_enter Try.func49, Try.ntmps49
        go_wp2_with fail
        refine (hT.out _).mono ?_; rintro e w' ⟨rfl, rfl⟩
        go_wp2_with fail
        refine (hN.out _).mono ?_; rintro e w' ⟨z, rfl, hz, rfl⟩
        have hz' := Lib.hid hz
        clear hz
        go_wp2_with fail
        go_ret2
        exact ⟨z, rfl, hz'.out, (Below.refl _ _).drew⟩
      · rw [show Fl.divS a b = (some 0, 10) from by unfold Fl.divS; rw [if_pos hb0, if_neg ha0]]
        have e1 : (a == 0) = false := by rw [beq_eq_false_iff_ne]; omega
        subst hb0
        clear ha0
        go_enter Try.func49, Try.ntmps49
        go_wp2_with fail
        refine (hT.out _).mono ?_; rintro e w' ⟨rfl, rfl⟩
        go_wp2_with fail
        go_ret2
        exact ⟨0, rfl, Fl.fits_zero, Below.refl _ _⟩
    · have e2 : (b == 0) = false := by rw [beq_eq_false_iff_ne]; omega
      by_cases ha0 : a = 0
      · by_cases hneg : b < 0
        · rw [show Fl.divS a b = (some 0, 10) from by unfold Fl.divS; rw [if_neg hb0, if_neg (by rw [ha0]; simp), if_pos ⟨ha0, hneg⟩]]
          subst ha0
          clear hb0
          go_enter Try.func49, Try.ntmps49
          go_wp2_with fail
          refine (hT.out _).mono ?_; rintro e w' ⟨rfl, rfl⟩
          go_wp2_with fail
          go_ret2
          exact ⟨0, rfl, Fl.fits_zero, Below.refl _ _⟩
        · rw [show Fl.divS a b = (some 0, 0) from by unfold Fl.divS; rw [if_neg hb0, if_neg (by rw [ha0]; simp), if_neg (fun h => hneg h.2), ha0, Int.zero_tdiv]]
          have hD0 := fun w' => refTold_any 0 w'
          rw [show Fl.lim 0 = (some 0, 0) from rfl] at hD0
          have hD := Lib.hid hD0
          have hb1 : 1 ≤ b := by omega
          clear hD0 hb0 hneg
          subst ha0
          go_enter Try.func49, Try.ntmps49
          go_wp2_with fail
          refine (hT.out _).mono ?_; rintro e w' ⟨rfl, rfl⟩
          go_wp2_with fail
          refine (hD.out _).mono ?_; rintro e w' ⟨⟨z, rfl, hz, hb⟩, rfl⟩
          have hz' := Lib.hid hz
          clear hz hb
          go_wp2_with fail
          go_ret2
          exact ⟨z, rfl, hz'.out, Below.refl _ _⟩
      · have e1 : (a == 0) = false := by rw [beq_eq_false_iff_ne]; omega
        by_cases ht : a.tmod b = 0
        · have hp : Fl.divS a b = Fl.lim (a.tdiv b) := by
            unfold Fl.divS Fl.lim
            have h2 : (a.tdiv b).natAbs < 9007199254740992 := by rw [Int.natAbs_tdiv]; exact Nat.lt_of_le_of_lt (Nat.div_le_self _ _) (by omega)
            rw [if_neg hb0, if_neg (by rw [ht]; simp), if_neg (fun h => ha0 h.1), if_pos h2]
          rw [hp]
          have hD := Lib.hid (fun w' => refTold_any (a.tdiv b) w')
          have h2 : (a.tdiv b).natAbs < 9007199254740992 := by rw [Int.natAbs_tdiv]; exact Nat.lt_of_le_of_lt (Nat.div_le_self _ _) (by omega)
          have q0 : -9007199254740992 < a.tdiv b := by omega
          have q1 : a.tdiv b < 9007199254740992 := by omega
          have e3 : (a.tmod b != 0) = false := by rw [ht]; rfl
          obtain ⟨p, hp⟩ : ∃ p, p = Fl.lim (a.tdiv b) := ⟨_, rfl⟩
          rw [← hp] at hD ⊢
          clear ha0 hp ht h2
          go_enter Try.func49, Try.ntmps49
          go_wp2_with fail
          refine (hT.out _).mono ?_; rintro e w' ⟨rfl, rfl⟩
          go_wp2_with fail
          refine (hD.out _).mono ?_; rintro e w' ⟨⟨z, rfl, hz, hb⟩, rfl⟩
          have hz' := Lib.hid hz
          clear hz hb
          go_wp2_with fail
          go_ret2
          exact ⟨z, rfl, hz'.out, Below.refl _ _⟩
        · rw [divS_inexact hb0 ht]
          have e3 : (a.tmod b != 0) = true := by rw [bne_iff_ne]; exact ht
          clear ha0 ht
          go_enter Try.func49, Try.ntmps49
          go_wp2_with fail
          refine (hT.out _).mono ?_; rintro e w' ⟨rfl, rfl⟩
          go_wp2_with fail
          go_ret2
          exact ⟨0, rfl, Fl.fits_zero, Below.refl _ _⟩

theorem refRem_any (x y : Nat) (w : World) (hx : x < 18446744073709551616) (hy : y < 18446744073709551616) :
    Calls Try.prog 50 #[.float .f64 x, .float .f64 y] w (OpPost (Fl.two Fl.remS x y) w) := by
  have hT := Lib.hid (fun w' => refTwo_any x y w' hx hy)
  cases ways_of Fl.remS x y with
  | bad h v =>
    rw [v] at hT
    rw [h]
    clear v h hx hy
    go_enter Try.func50, Try.ntmps50
    go_wp2_with fail
    refine (hT.out _).mono ?_; rintro e w' ⟨rfl, rfl⟩
    go_wp2_with fail
    go_ret2
    exact ⟨0, rfl, Fl.fits_zero, Below.refl _ _⟩
  | nan h a b v =>
    rw [v] at hT
    rw [h]
    have hN := Lib.hid (refNaN_any)
    clear v h hx hy
    go_enter Try.func50, Try.ntmps50
    go_wp2_with fail
    refine (hT.out _).mono ?_; rintro e w' ⟨rfl, rfl⟩
    go_wp2_with fail
    refine (hN.out _).mono ?_; rintro e w' ⟨z, rfl, hz, rfl⟩
    have hz' := Lib.hid hz
    clear hz
    go_wp2_with fail
    go_ret2
    exact ⟨z, rfl, hz'.out, (Below.refl _ _).drew⟩
  | int a b ha hb h v =>
    rw [v] at hT
    rw [h]
    have a0 : -9007199254740992 < a := by omega
    have a1 : a < 9007199254740992 := by omega
    have b0 : -9007199254740992 < b := by omega
    have b1 : b < 9007199254740992 := by omega
    clear v h hx hy ha hb
    have hN := Lib.hid (refNaN_any)
    by_cases hb0 : b = 0
    · rw [show Fl.remS a b = (none, 0) from by unfold Fl.remS; rw [if_pos hb0]]
      subst hb0
      go_enter Try.func50, Try.ntmps50
      go_wp2_with fail
      refine (hT.out _).mono ?_; rintro e w' ⟨rfl, rfl⟩
      go_wp2_with fail
      refine (hN.out _).mono ?_; rintro e w' ⟨z, rfl, hz, rfl⟩
      have hz' := Lib.hid hz
      clear hz
      go_wp2_with fail
      go_ret2
      exact ⟨z, rfl, hz'.out, (Below.refl _ _).drew⟩
    · have e2 : (b == 0) = false := by rw [beq_eq_false_iff_ne]; omega
      have hm : (a.tmod b).natAbs < 9007199254740992 := modV_small (by omega)
      have q0 : -9007199254740992 < a.tmod b := by omega
      have q1 : a.tmod b < 9007199254740992 := by omega
      by_cases hneg : a < 0
      · by_cases ht : a.tmod b = 0
        · rw [show Fl.remS a b = (some 0, 10) from by unfold Fl.remS; rw [if_neg hb0, if_pos ⟨hneg, ht⟩]]
          have e3 : (a.tmod b == 0) = true := by rw [beq_iff_eq]; exact ht
          clear ht hm
          go_enter Try.func50, Try.ntmps50
          go_wp2_with fail
          refine (hT.out _).mono ?_; rintro e w' ⟨rfl, rfl⟩
          go_wp2_with fail
          go_ret2
          exact ⟨0, rfl, Fl.fits_zero, Below.refl _ _⟩
        · have hp : Fl.remS a b = Fl.lim (a.tmod b) := by unfold Fl.remS Fl.lim; rw [if_neg hb0, if_neg (fun h => ht h.2), if_pos hm]
          rw [hp]
          have hD := Lib.hid (fun w' => refTold_any (a.tmod b) w')
          have e3 : (a.tmod b == 0) = false := by rw [beq_eq_false_iff_ne]; exact ht
          obtain ⟨p, hp⟩ : ∃ p, p = Fl.lim (a.tmod b) := ⟨_, rfl⟩
          rw [← hp] at hD ⊢
          clear ht hm hp
          go_enter Try.func50, Try.ntmps50
          go_wp2_with fail
          refine (hT.out _).mono ?_; rintro e w' ⟨rfl, rfl⟩
          go_wp2_with fail
          refine (hD.out _).mono ?_; rintro e w' ⟨⟨z, rfl, hz, hb⟩, rfl⟩
          have hz' := Lib.hid hz
          clear hz hb
          go_wp2_with fail
          go_ret2
          exact ⟨z, rfl, hz'.out, Below.refl _ _⟩
      · have hp : Fl.remS a b = Fl.lim (a.tmod b) := by unfold Fl.remS Fl.lim; rw [if_neg hb0, if_neg (fun h => hneg h.1), if_pos hm]
        rw [hp]
        have hD := Lib.hid (fun w' => refTold_any (a.tmod b) w')
        have hte : a.tmod b = a % b := Int.tmod_eq_emod_of_nonneg (by omega)
        obtain ⟨p, hp⟩ : ∃ p, p = Fl.lim (a.tmod b) := ⟨_, rfl⟩
        rw [← hp] at hD ⊢
        rw [hte] at hD q0 q1
        clear hm hp hte
        go_enter Try.func50, Try.ntmps50
        go_wp2_with fail
        refine (hT.out _).mono ?_; rintro e w' ⟨rfl, rfl⟩
        go_wp2_with fail
        refine (hD.out _).mono ?_; rintro e w' ⟨⟨z, rfl, hz, hb⟩, rfl⟩
        have hz' := Lib.hid hz
        clear hz hb
        go_wp2_with fail
        go_ret2
        exact ⟨z, rfl, hz'.out, Below.refl _ _⟩

theorem refNeg_any (x : Nat) (w : World) (hx : x < 18446744073709551616) :
    Calls Try.prog 51 #[.float .f64 x] w (OpPost (Fl.one Fl.negS x) w) := by
  have hM := Lib.hid (fun w' => refMay_any x w' hx)
  have hW := Lib.hid (fun w' => whole_any x w' hx)
  have hN := Lib.hid (refNaN_any)
  cases m1 : Fl.may x with
  | false =>
    rw [m1] at hM
    have hp : Fl.one Fl.negS x = (some 0, 2) := by unfold Fl.one; rw [m1]; rfl
    rw [hp]
    clear m1 hx hp
    go_enter Try.func51, Try.ntmps51
    go_wp2_with fail
    refine (hM.out _).mono ?_; rintro e w' ⟨rfl, rfl⟩
    go_wp2_with fail
    go_ret2
    exact ⟨0, rfl, Fl.fits_zero, Below.refl _ _⟩
  | true =>
    rw [m1] at hM
    rcases may_cases m1 with ⟨n1, q1⟩ | ⟨a, ha, ea, q1⟩
    · have hp : Fl.one Fl.negS x = (none, 0) := by unfold Fl.one; rw [m1, if_pos rfl, q1]
      rw [hp]
      have hw2 : Fl.wholeS x = (0, false) := by unfold Fl.wholeS; rw [q1]; rfl
      rw [hw2] at hW
      clear m1 hx hp n1 q1 hw2
      go_enter Try.func51, Try.ntmps51
      go_wp2_with fail
      refine (hM.out _).mono ?_; rintro e w' ⟨rfl, rfl⟩
      go_wp2_with fail
      refine (hW.out _).mono ?_; rintro e w' ⟨rfl, rfl⟩
      go_wp2_with fail
      refine (hN.out _).mono ?_; rintro e w' ⟨z, rfl, hz, rfl⟩
      have hz' := Lib.hid hz
      clear hz
      go_wp2_with fail
      go_ret2
      exact ⟨z, rfl, hz'.out, (Below.refl _ _).drew⟩
    · have hp : Fl.one Fl.negS x = Fl.negS a := by unfold Fl.one; rw [m1, if_pos rfl, q1]
      rw [hp]
      have hw2 : Fl.wholeS x = (a, true) := by unfold Fl.wholeS; rw [q1]; rfl
      rw [hw2] at hW
      have a0 : -9007199254740992 < a := by omega
      have a1 : a < 9007199254740992 := by omega
      by_cases h0 : a = 0
      · rw [show Fl.negS a = (some 0, 10) from by unfold Fl.negS; rw [if_pos h0]]
        clear m1 hx hp q1 hw2 ha ea
        subst h0
        go_enter Try.func51, Try.ntmps51
        go_wp2_with fail
        refine (hM.out _).mono ?_; rintro e w' ⟨rfl, rfl⟩
        go_wp2_with fail
        refine (hW.out _).mono ?_; rintro e w' ⟨rfl, rfl⟩
        go_wp2_with fail
        go_ret2
        exact ⟨0, rfl, Fl.fits_zero, Below.refl _ _⟩
      · have hq : Fl.negS a = Fl.lim (-a) := by unfold Fl.negS Fl.lim; rw [if_neg h0, if_pos (by omega)]
        rw [hq]
        have hD := Lib.hid (fun w' => refTold_any (-a) w')
        have e1 : (a == 0) = false := by rw [beq_eq_false_iff_ne]; exact h0
        obtain ⟨p, hpp⟩ : ∃ p, p = Fl.lim (-a) := ⟨_, rfl⟩
        rw [← hpp] at hD ⊢
        clear m1 hx hp q1 hw2 ha ea h0 hq hpp
        go_enter Try.func51, Try.ntmps51
        go_wp2_with fail
        refine (hM.out _).mono ?_; rintro e w' ⟨rfl, rfl⟩
        go_wp2_with fail
        refine (hW.out _).mono ?_; rintro e w' ⟨rfl, rfl⟩
        go_wp2_with fail
        refine (hD.out _).mono ?_; rintro e w' ⟨⟨z, rfl, hz, hb⟩, rfl⟩
        have hz' := Lib.hid hz
        clear hz hb
        go_wp2_with fail
        go_ret2
        exact ⟨z, rfl, hz'.out, Below.refl _ _⟩
end Go.Proofs.Ytajmdpndbfmdmaa
