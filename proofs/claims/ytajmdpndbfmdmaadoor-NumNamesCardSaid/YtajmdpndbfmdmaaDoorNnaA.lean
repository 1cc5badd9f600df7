/-
  The walk of bailifflaw01.NumNames: a closed sentence. Conditions: the table of powers of ten lies.
-/
import Derived.Test.YtajmdpndbfmdmaaDoorAgaB
import Derived.Test.YtajmdpndbfmdmaaDoorNumJ
namespace Go.Proofs.YtajmdpndbfmdmaaDoor
open Go Go.RowKit

theorem fits_word {z v : Nat} {n : Int} (h : Fl.Fits z (some n)) (hw : Fl.W n = v) : z = v := h.1.trans hw
theorem none_true {z : Nat} (w : World) (h : Fl.Fits z none) :
    Calls Tryd.prog 46 #[.float .f64 z] w fun e w' => e = .returned (.bool true) ∧ w = w' := by
  have := none_any z w h.2
  rwa [h.1] at this
theorem text_m12 : textS 13846317054350589952 = ⟨#[45, 49, 50]⟩ := by
  have hw : (13846317054350589952 : Nat) = Fl.W (-12) := by decide +kernel
  rw [hw]
  unfold textS
  rw [Fl.isN_W (by decide), Fl.num?_W (by decide)]
  show strOf (Lib.itoa (-(12 : Nat))) = _
  rw [Lib.itoa_neg 12 (by decide), Lib.decDigits_two (by decide) (by decide)]
  rfl
theorem text_half : textS 4602678819172646912 = ⟨#[]⟩ := by decide +kernel

theorem nn_0 : Fl.two Fl.addS 4845873199050653694 4607182418800017408 = (some 9007199254740991, 0) := by decide +kernel
theorem nn_1 : Fl.two Fl.mulS 0 13840687554816376832 = (some 0, 10) := by decide +kernel
theorem nn_2 : Fl.one Fl.negS 0 = (some 0, 10) := by decide +kernel
theorem nn_3 : Fl.two Fl.divS 4607182418800017408 0 = (some 0, 10) := by decide +kernel
theorem nn_4 : Fl.two Fl.divS 0 0 = (none, 0) := by decide +kernel
theorem nn_5 : Fl.two Fl.divS 4619567317775286272 4611686018427387904 = (some 0, 10) := by decide +kernel
theorem nn_6 : Fl.two Fl.divS 13841813454723219456 4611686018427387904 = (some (-3), 0) := by decide +kernel
theorem nn_7 : Fl.two Fl.remS 13842939354630062080 4611686018427387904 = (some (-1), 0) := by decide +kernel
theorem nn_8 : Fl.two Fl.remS 13839561654909534208 4611686018427387904 = (some 0, 10) := by decide +kernel
theorem nn_9 : Fl.two Fl.remS 4619567317775286272 13835058055282163712 = (some 1, 0) := by decide +kernel
theorem nn_10 : Fl.two Fl.remS 4619567317775286272 0 = (none, 0) := by decide +kernel
theorem nn_11 : bitsS 60 4607182418800017408 4629418941960159232 = (13970166044103278592, 0) := by decide +kernel
theorem nn_12 : bitsS 62 13844065254536904704 4607182418800017408 = (13839561654909534208, 0) := by decide +kernel
theorem nn_13 : bitsS 117 13830554455654793216 0 = (4751297606873776128, 0) := by decide +kernel
theorem nn_14 : bitsS 120 4607182418800017408 4607182418800017408 = (0, 2) := by decide +kernel
theorem nn_15 : readL (trimV ⟨#[32, 48, 48, 55, 32]⟩).data.toList = (some 7, 0) := by decide +kernel
theorem nn_16 : readL (trimV ⟨#[45, 48]⟩).data.toList = (some 0, 10) := by decide +kernel
theorem nn_17 : readL (trimV ⟨#[49, 46, 53]⟩).data.toList = (none, 0) := by decide +kernel
theorem nn_18 : readL (trimV ⟨#[]⟩).data.toList = (some 0, 0) := by decide +kernel
theorem nn_19 : readL (trimV ⟨#[57, 48, 48, 55, 49, 57, 57, 50, 53, 52, 55, 52, 48, 57, 57, 50]⟩).data.toList = (some 0, 10) := by decide +kernel

set_option maxHeartbeats 4000000 in
set_option maxRecDepth 100000 in
theorem numNames_walk (w : World) (htab : Lib.TabIs Tryd.prog w "internal/strconv.uint64pow10" .u64 Lib.pow10Tab) :
    Calls Tryd.prog 13 #[] w fun e w' => e = .returned (.bool true) ∧ Below w.heap.size w w' := by
  have ht := Lib.hid htab
  clear htab
  have B0 := Lib.hid (Below.refl w.heap.size w)
  have W13837309855095848960 := Lib.hid (show Fl.W (-3) = 13837309855095848960 from by decide +kernel)
  have W13830554455654793216 := Lib.hid (show Fl.W (-1) = 13830554455654793216 from by decide +kernel)
  have W0 := Lib.hid (show Fl.W (0) = 0 from by decide +kernel)
  have W4607182418800017408 := Lib.hid (show Fl.W (1) = 4607182418800017408 from by decide +kernel)
  have W4619567317775286272 := Lib.hid (show Fl.W (7) = 4619567317775286272 from by decide +kernel)
  have W4845873199050653695 := Lib.hid (show Fl.W (9007199254740991) = 4845873199050653695 from by decide +kernel)
  have o0 : (FloatKind.f64.format.order 0 0 == some .eq) = true := by decide +kernel
  have o4607182418800017408 : (FloatKind.f64.format.order 4607182418800017408 4607182418800017408 == some .eq) = true := by decide +kernel
  have o4619567317775286272 : (FloatKind.f64.format.order 4619567317775286272 4619567317775286272 == some .eq) = true := by decide +kernel
  have o4751297606873776128 : (FloatKind.f64.format.order 4751297606873776128 4751297606873776128 == some .eq) = true := by decide +kernel
  have o4845873199050653695 : (FloatKind.f64.format.order 4845873199050653695 4845873199050653695 == some .eq) = true := by decide +kernel
  have o13830554455654793216 : (FloatKind.f64.format.order 13830554455654793216 13830554455654793216 == some .eq) = true := by decide +kernel
  have o13837309855095848960 : (FloatKind.f64.format.order 13837309855095848960 13837309855095848960 == some .eq) = true := by decide +kernel
  have o13839561654909534208 : (FloatKind.f64.format.order 13839561654909534208 13839561654909534208 == some .eq) = true := by decide +kernel
  have o13970166044103278592 : (FloatKind.f64.format.order 13970166044103278592 13970166044103278592 == some .eq) = true := by decide +kernel
  have p0 := Lib.hid (fun w' => Add_any 4845873199050653694 4607182418800017408 w' (by decide) (by decide))
  rw [nn_0] at p0
  have p1 := Lib.hid (fun w' => Mul_any 0 13840687554816376832 w' (by decide) (by decide))
  rw [nn_1] at p1
  have p2 := Lib.hid (fun w' => Neg_any 0 w' (by decide))
  rw [nn_2] at p2
  have p3 := Lib.hid (fun w' => Div_any 4607182418800017408 0 w' (by decide) (by decide))
  rw [nn_3] at p3
  have p4 := Lib.hid (fun w' => Div_any 0 0 w' (by decide) (by decide))
  rw [nn_4] at p4
  have p5 := Lib.hid (fun w' => Div_any 4619567317775286272 4611686018427387904 w' (by decide) (by decide))
  rw [nn_5] at p5
  have p6 := Lib.hid (fun w' => Div_any 13841813454723219456 4611686018427387904 w' (by decide) (by decide))
  rw [nn_6] at p6
  have p7 := Lib.hid (fun w' => Rem_any 13842939354630062080 4611686018427387904 w' (by decide) (by decide))
  rw [nn_7] at p7
  have p8 := Lib.hid (fun w' => Rem_any 13839561654909534208 4611686018427387904 w' (by decide) (by decide))
  rw [nn_8] at p8
  have p9 := Lib.hid (fun w' => Rem_any 4619567317775286272 13835058055282163712 w' (by decide) (by decide))
  rw [nn_9] at p9
  have p10 := Lib.hid (fun w' => Rem_any 4619567317775286272 0 w' (by decide) (by decide))
  rw [nn_10] at p10
  have p11 := Lib.hid (fun w' => bits_any 60 4607182418800017408 4629418941960159232 w' (by decide) (by decide))
  rw [nn_11] at p11
  have p12 := Lib.hid (fun w' => bits_any 62 13844065254536904704 4607182418800017408 w' (by decide) (by decide))
  rw [nn_12] at p12
  have p13 := Lib.hid (fun w' => bits_any 117 13830554455654793216 0 w' (by decide) (by decide))
  rw [nn_13] at p13
  have p14 := Lib.hid (fun w' => bits_any 120 4607182418800017408 4607182418800017408 w' (by decide) (by decide))
  rw [nn_14] at p14
  have p15 := Lib.hid (fun w' => read_any ⟨#[32, 48, 48, 55, 32]⟩ w' (by decide))
  rw [nn_15] at p15
  have p16 := Lib.hid (fun w' => read_any ⟨#[45, 48]⟩ w' (by decide))
  rw [nn_16] at p16
  have p17 := Lib.hid (fun w' => read_any ⟨#[49, 46, 53]⟩ w' (by decide))
  rw [nn_17] at p17
  have p18 := Lib.hid (fun w' => read_any ⟨#[]⟩ w' (by decide))
  rw [nn_18] at p18
  have p19 := Lib.hid (fun w' => read_any ⟨#[57, 48, 48, 55, 49, 57, 57, 50, 53, 52, 55, 52, 48, 57, 57, 50]⟩ w' (by decide))
  rw [nn_19] at p19
  have t0 := Lib.hid (fun w' => text_any 13846317054350589952 w' (by decide))
  rw [text_m12] at t0
  have t1 := Lib.hid (fun w' => text_any 4602678819172646912 w' (by decide))
  rw [text_half] at t1
  have v := Lib.hid (fun w' => alive_true w')
  go_enter Tryd.func13, Tryd.ntmps13
  go_wp2_with fail
  refine (p0.out _).mono ?_; rintro e y0 ⟨z0, rfl, hz, b⟩
  have B1 := Lib.hid (B0.out.trans (b.mono B0.out.size))
  clear b
  obtain rfl := fits_word hz W4845873199050653695.out
  clear hz
  go_wp2_with fail
  refine (p1.out _).mono ?_; rintro e y1 ⟨z1, rfl, hz, b⟩
  have B2 := Lib.hid (B1.out.trans (b.mono B1.out.size))
  clear b
  obtain rfl := fits_word hz W0.out
  clear hz
  go_wp2_with fail
  refine (p2.out _).mono ?_; rintro e y2 ⟨z2, rfl, hz, b⟩
  have B3 := Lib.hid (B2.out.trans (b.mono B2.out.size))
  clear b
  obtain rfl := fits_word hz W0.out
  clear hz
  go_wp2_with fail
  refine (p3.out _).mono ?_; rintro e y3 ⟨z3, rfl, hz, b⟩
  have B4 := Lib.hid (B3.out.trans (b.mono B3.out.size))
  clear b
  obtain rfl := fits_word hz W0.out
  clear hz
  go_wp2_with fail
  refine (p4.out _).mono ?_; rintro e y4 ⟨z4, rfl, hz, b⟩
  have B5 := Lib.hid (B4.out.trans (b.mono B4.out.size))
  clear b
  have qn4 := Lib.hid (fun w' => none_true w' hz)
  clear hz
  go_wp2_with fail
  refine (p5.out _).mono ?_; rintro e y5 ⟨z5, rfl, hz, b⟩
  have B6 := Lib.hid (B5.out.trans (b.mono B5.out.size))
  clear b
  obtain rfl := fits_word hz W0.out
  clear hz
  go_wp2_with fail
  refine (p6.out _).mono ?_; rintro e y6 ⟨z6, rfl, hz, b⟩
  have B7 := Lib.hid (B6.out.trans (b.mono B6.out.size))
  clear b
  obtain rfl := fits_word hz W13837309855095848960.out
  clear hz
  go_wp2_with fail
  refine (qn4.out _).mono ?_; rintro e w' ⟨rfl, rfl⟩
  go_wp2_with fail
  refine (p7.out _).mono ?_; rintro e y7 ⟨z7, rfl, hz, b⟩
  have B8 := Lib.hid (B7.out.trans (b.mono B7.out.size))
  clear b
  obtain rfl := fits_word hz W13830554455654793216.out
  clear hz
  go_wp2_with fail
  refine (p8.out _).mono ?_; rintro e y8 ⟨z8, rfl, hz, b⟩
  have B9 := Lib.hid (B8.out.trans (b.mono B8.out.size))
  clear b
  obtain rfl := fits_word hz W0.out
  clear hz
  go_wp2_with fail
  refine (p9.out _).mono ?_; rintro e y9 ⟨z9, rfl, hz, b⟩
  have B10 := Lib.hid (B9.out.trans (b.mono B9.out.size))
  clear b
  obtain rfl := fits_word hz W4607182418800017408.out
  clear hz
  go_wp2_with fail
  refine (p10.out _).mono ?_; rintro e y10 ⟨z10, rfl, hz, b⟩
  have B11 := Lib.hid (B10.out.trans (b.mono B10.out.size))
  clear b
  have qn10 := Lib.hid (fun w' => none_true w' hz)
  clear hz
  go_wp2_with fail
  refine (qn10.out _).mono ?_; rintro e w' ⟨rfl, rfl⟩
  go_wp2_with fail
  refine (p11.out _).mono ?_; rintro e w' ⟨rfl, rfl⟩
  go_wp2_with fail
  refine (p12.out _).mono ?_; rintro e w' ⟨rfl, rfl⟩
  go_wp2_with fail
  refine (p13.out _).mono ?_; rintro e w' ⟨rfl, rfl⟩
  go_wp2_with fail
  refine (p14.out _).mono ?_; rintro e w' ⟨rfl, rfl⟩
  go_wp2_with fail
  refine (p15.out _).mono ?_; rintro e y15 ⟨z15, rfl, hz, b⟩
  have B12 := Lib.hid (B11.out.trans (b.mono B11.out.size))
  clear b
  obtain rfl := fits_word hz W4619567317775286272.out
  clear hz
  go_wp2_with fail
  refine (p16.out _).mono ?_; rintro e y16 ⟨z16, rfl, hz, b⟩
  have B13 := Lib.hid (B12.out.trans (b.mono B12.out.size))
  clear b
  obtain rfl := fits_word hz W0.out
  clear hz
  go_wp2_with fail
  refine (p17.out _).mono ?_; rintro e y17 ⟨z17, rfl, hz, b⟩
  have B14 := Lib.hid (B13.out.trans (b.mono B13.out.size))
  clear b
  have qn17 := Lib.hid (fun w' => none_true w' hz)
  clear hz
  go_wp2_with fail
  refine (p18.out _).mono ?_; rintro e y18 ⟨z18, rfl, hz, b⟩
  have B15 := Lib.hid (B14.out.trans (b.mono B14.out.size))
  clear b
  obtain rfl := fits_word hz W0.out
  clear hz
  go_wp2_with fail
  refine (p19.out _).mono ?_; rintro e y19 ⟨z19, rfl, hz, b⟩
  have B16 := Lib.hid (B15.out.trans (b.mono B15.out.size))
  clear b
  obtain rfl := fits_word hz W0.out
  clear hz
  go_wp2_with fail
  refine (qn17.out _).mono ?_; rintro e w' ⟨rfl, rfl⟩
  go_wp2_with fail
  refine (t0.out _ (tab_below ht.out B16.out (tab_size ht.out))).mono ?_; rintro e x0 ⟨rfl, b⟩
  have B17 := Lib.hid (B16.out.trans (b.mono B16.out.size))
  clear b
  go_wp2_with fail
  refine (t1.out _ (tab_below ht.out B17.out (tab_size ht.out))).mono ?_; rintro e x1 ⟨rfl, b⟩
  have B18 := Lib.hid (B17.out.trans (b.mono B17.out.size))
  clear b
  go_wp2_with fail
  refine (v.out _).mono ?_; rintro e x9 ⟨rfl, b⟩
  have B19 := Lib.hid (B18.out.trans (b.mono B18.out.size))
  clear b
  go_wp2
  go_ret
  exact ⟨by simp, B19.out⟩
end Go.Proofs.YtajmdpndbfmdmaaDoor
