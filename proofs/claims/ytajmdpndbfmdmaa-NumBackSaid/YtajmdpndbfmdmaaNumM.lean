/-
  The walk of bailifflaw01.NumSums: it returns true. Conditions: the arguments are words of 64 bits.
-/
import Derived.Test.YtajmdpndbfmdmaaNumL
namespace Go.Proofs.Ytajmdpndbfmdmaa
open Go Go.RowKit

theorem alike_of_fits {z u : Nat} {v : Option Int} (h : Fl.Fits z v) (g : Fl.Fits u v) : Alike z u := by
  refine ⟨Fl.Fits_lt h, Fl.Fits_lt g, ?_⟩
  cases v with
  | none => exact .inr ⟨h.1, g.1⟩
  | some n => exact .inl (h.1.trans g.1.symm)

theorem numSums_walk (x y : Nat) (w0 : (Lit.float .f64 x).wf = true) (w1 : (Lit.float .f64 y).wf = true) (w : World) :
    Calls Try.prog 10 #[.float .f64 x, .float .f64 y] w fun e w' => e = .returned (.bool true) ∧ Below w.heap.size w w' := by
  have hx := float_lt w0
  have hy := float_lt w1
  have hM := Lib.hid (fun w' => may_any x w' hx)
  have hK := Lib.hid (fun w' => refMay_any x w' hx)
  have hT := Lib.hid (fun z u e w' (h : Alike z u) => told_true z u e w' h)
  have c0 := Lib.hid (fun w' => Add_any x y w' hx hy)
  have d0 := Lib.hid (fun w' => refAdd_any x y w' hx hy)
  obtain ⟨p0, hp0⟩ : ∃ p, p = Fl.two Fl.addS x y := ⟨_, rfl⟩
  rw [← hp0] at c0 d0
  clear hp0
  have c1 := Lib.hid (fun w' => Sub_any x y w' hx hy)
  have d1 := Lib.hid (fun w' => refSub_any x y w' hx hy)
  obtain ⟨p1, hp1⟩ : ∃ p, p = Fl.two Fl.subS x y := ⟨_, rfl⟩
  rw [← hp1] at c1 d1
  clear hp1
  have c2 := Lib.hid (fun w' => Mul_any x y w' hx hy)
  have d2 := Lib.hid (fun w' => refMul_any x y w' hx hy)
  obtain ⟨p2, hp2⟩ : ∃ p, p = Fl.two Fl.mulS x y := ⟨_, rfl⟩
  rw [← hp2] at c2 d2
  clear hp2
  have c3 := Lib.hid (fun w' => Div_any x y w' hx hy)
  have d3 := Lib.hid (fun w' => refDiv_any x y w' hx hy)
  obtain ⟨p3, hp3⟩ : ∃ p, p = Fl.two Fl.divS x y := ⟨_, rfl⟩
  rw [← hp3] at c3 d3
  clear hp3
  have c4 := Lib.hid (fun w' => Rem_any x y w' hx hy)
  have d4 := Lib.hid (fun w' => refRem_any x y w' hx hy)
  obtain ⟨p4, hp4⟩ : ∃ p, p = Fl.two Fl.remS x y := ⟨_, rfl⟩
  rw [← hp4] at c4 d4
  clear hp4
  have c5 := Lib.hid (fun w' => Neg_any x w' hx)
  have d5 := Lib.hid (fun w' => refNeg_any x w' hx)
  obtain ⟨p5, hp5⟩ : ∃ p, p = Fl.one Fl.negS x := ⟨_, rfl⟩
  rw [← hp5] at c5 d5
  clear hp5
  generalize Fl.may x = m at hM hK
  have hm : (m == m) = true := by simp
  clear w0 w1 hx hy
  go_enter Try.func10, Try.ntmps10
  go_wp2_with fail
  refine (c0.out _).mono ?_; rintro e w1 ⟨z0, rfl, f0, b1⟩
  have F0 := Lib.hid f0
  have B1 := Lib.hid b1
  clear f0 b1
  go_wp2_with fail
  refine (c1.out _).mono ?_; rintro e w2 ⟨z1, rfl, f1, b2⟩
  have F1 := Lib.hid f1
  have B2 := Lib.hid b2
  clear f1 b2
  go_wp2_with fail
  refine (c2.out _).mono ?_; rintro e w3 ⟨z2, rfl, f2, b3⟩
  have F2 := Lib.hid f2
  have B3 := Lib.hid b3
  clear f2 b3
  go_wp2_with fail
  refine (c3.out _).mono ?_; rintro e w4 ⟨z3, rfl, f3, b4⟩
  have F3 := Lib.hid f3
  have B4 := Lib.hid b4
  clear f3 b4
  go_wp2_with fail
  refine (c4.out _).mono ?_; rintro e w5 ⟨z4, rfl, f4, b5⟩
  have F4 := Lib.hid f4
  have B5 := Lib.hid b5
  clear f4 b5
  go_wp2_with fail
  refine (c5.out _).mono ?_; rintro e w6 ⟨z5, rfl, f5, b6⟩
  have F5 := Lib.hid f5
  have B6 := Lib.hid b6
  clear f5 b6
  go_wp2_with fail
  refine (d0.out _).mono ?_; rintro e w7 ⟨u0, rfl, g0, b7⟩
  have G0 := Lib.hid g0
  have B7 := Lib.hid b7
  clear g0 b7
  go_wp2_with fail
  refine (d1.out _).mono ?_; rintro e w8 ⟨u1, rfl, g1, b8⟩
  have G1 := Lib.hid g1
  have B8 := Lib.hid b8
  clear g1 b8
  go_wp2_with fail
  refine (d2.out _).mono ?_; rintro e w9 ⟨u2, rfl, g2, b9⟩
  have G2 := Lib.hid g2
  have B9 := Lib.hid b9
  clear g2 b9
  go_wp2_with fail
  refine (d3.out _).mono ?_; rintro e w10 ⟨u3, rfl, g3, b10⟩
  have G3 := Lib.hid g3
  have B10 := Lib.hid b10
  clear g3 b10
  go_wp2_with fail
  refine (d4.out _).mono ?_; rintro e w11 ⟨u4, rfl, g4, b11⟩
  have G4 := Lib.hid g4
  have B11 := Lib.hid b11
  clear g4 b11
  go_wp2_with fail
  refine (d5.out _).mono ?_; rintro e w12 ⟨u5, rfl, g5, b12⟩
  have G5 := Lib.hid g5
  have B12 := Lib.hid b12
  clear g5 b12
  go_wp2_with fail
  refine (hT.out _ _ _ _ (alike_of_fits F0.out G0.out)).mono ?_; rintro e w' ⟨rfl, rfl⟩
  go_wp2_with fail
  refine (hT.out _ _ _ _ (alike_of_fits F1.out G1.out)).mono ?_; rintro e w' ⟨rfl, rfl⟩
  go_wp2_with fail
  refine (hT.out _ _ _ _ (alike_of_fits F2.out G2.out)).mono ?_; rintro e w' ⟨rfl, rfl⟩
  go_wp2_with fail
  refine (hT.out _ _ _ _ (alike_of_fits F3.out G3.out)).mono ?_; rintro e w' ⟨rfl, rfl⟩
  go_wp2_with fail
  refine (hT.out _ _ _ _ (alike_of_fits F4.out G4.out)).mono ?_; rintro e w' ⟨rfl, rfl⟩
  go_wp2_with fail
  refine (hT.out _ _ _ _ (alike_of_fits F5.out G5.out)).mono ?_; rintro e w' ⟨rfl, rfl⟩
  go_wp2_with fail
  refine (hM.out _).mono ?_; rintro e w' ⟨rfl, rfl⟩
  go_wp2_with fail
  refine (hK.out _).mono ?_; rintro e w' ⟨rfl, rfl⟩
  go_wp2
  go_ret
  refine ⟨by simp, ?_⟩
  have s1 := B1.out.size
  have s2 := B2.out.size
  have s3 := B3.out.size
  have s4 := B4.out.size
  have s5 := B5.out.size
  have s6 := B6.out.size
  have s7 := B7.out.size
  have s8 := B8.out.size
  have s9 := B9.out.size
  have s10 := B10.out.size
  have s11 := B11.out.size
  have s12 := B12.out.size
  exact B1.out.trans ((B2.out.mono (by omega)).trans ((B3.out.mono (by omega)).trans ((B4.out.mono (by omega)).trans ((B5.out.mono (by omega)).trans ((B6.out.mono (by omega)).trans ((B7.out.mono (by omega)).trans ((B8.out.mono (by omega)).trans ((B9.out.mono (by omega)).trans ((B10.out.mono (by omega)).trans ((B11.out.mono (by omega)).trans (B12.out.mono (by omega))))))))))))
end Go.Proofs.Ytajmdpndbfmdmaa
