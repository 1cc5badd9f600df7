/-
  The walk of bailifflaw07.ValueNames: a closed sentence. Conditions: the table of powers of ten lies.
-/
import Derived.Test.YtajmdpndbfmdmaaDoorValH
import Derived.Test.YtajmdpndbfmdmaaDoorLexC
namespace Go.Proofs.YtajmdpndbfmdmaaDoor
open Go Go.RowKit

theorem check_neg (k : Int) (x : Nat) (s : ByteArray) (r : Int) (w : World) :
    Calls Tryd.prog 78 #[val k x s r, .int .i64 (-1), .int .i64 0] w fun e w' => e = .returned (.int .i64 2) ∧ Below w.heap.size w w' := by
  unfold val
  go_enter Tryd.func78, Tryd.ntmps78
  go_wp2
  go_ret
  exact ⟨rfl, below_one⟩
theorem check_obj (w : World) :
    Calls Tryd.prog 78 #[val 6 0 ByteArray.empty 4, .int .i64 4, .int .i64 9] w fun e w' => e = .returned (.int .i64 9) ∧ Below w.heap.size w w' := by
  have qa := Lib.hid (fun w' => vMay_any 6 0 ByteArray.empty 4 w' (by decide) (by decide))
  rw [show mayV 6 0 ByteArray.empty 4 = true from by decide +kernel] at qa
  have qb := Lib.hid (fun w' => vObj_any 6 0 ByteArray.empty 4 w')
  rw [show isObj 6 = true from by decide] at qb
  unfold val at *
  go_enter Tryd.func78, Tryd.ntmps78
  go_wp2_with fail
  refine (qa.out _).mono ?_; rintro e w1 ⟨rfl, b1⟩
  obtain ⟨hc, hf⟩ := bcell b1
  have B1 := Lib.hid b1
  clear b1
  go_wp2_with fail
  refine (qb.out _).mono ?_; rintro e w2 ⟨rfl, b2⟩
  have B2 := Lib.hid (B1.out.trans (b2.mono B1.out.size))
  clear b2 hc hf
  obtain ⟨hc, hf⟩ := bcell B2.out
  go_wp2
  go_ret
  exact ⟨rfl, below_step B2.out⟩
theorem check_sym (w : World) :
    Calls Tryd.prog 78 #[val 5 0 ByteArray.empty 4, .int .i64 4, .int .i64 9] w fun e w' => e = .returned (.int .i64 0) ∧ Below w.heap.size w w' := by
  have qa := Lib.hid (fun w' => vMay_any 5 0 ByteArray.empty 4 w' (by decide) (by decide))
  rw [show mayV 5 0 ByteArray.empty 4 = true from by decide +kernel] at qa
  have qb := Lib.hid (fun w' => vObj_any 5 0 ByteArray.empty 4 w')
  rw [show isObj 5 = false from by decide] at qb
  unfold val at *
  go_enter Tryd.func78, Tryd.ntmps78
  go_wp2_with fail
  refine (qa.out _).mono ?_; rintro e w1 ⟨rfl, b1⟩
  obtain ⟨hc, hf⟩ := bcell b1
  have B1 := Lib.hid b1
  clear b1
  go_wp2_with fail
  refine (qb.out _).mono ?_; rintro e w2 ⟨rfl, b2⟩
  have B2 := Lib.hid (B1.out.trans (b2.mono B1.out.size))
  clear b2 hc hf
  obtain ⟨hc, hf⟩ := bcell B2.out
  go_wp2
  go_ret
  exact ⟨rfl, below_step B2.out⟩


set_option maxHeartbeats 8000000 in
set_option maxRecDepth 100000 in
theorem valueNames_walk (w : World) (htab : Lib.TabIs Tryd.prog w "internal/strconv.uint64pow10" .u64 Lib.pow10Tab) :
    Calls Tryd.prog 14 #[] w fun e w' => e = .returned (.bool true) ∧ Below w.heap.size w w' := by
  obtain ⟨r, hr1, hr2, hrun⟩ := Fl.run_nan (P := Tryd.prog) .quo 22 0 0 (by simp) Fl.div_none_zero w
  have ht := Lib.hid htab
  have pn := Lib.hid (fun w' => vNum_any r w')
  have p0 := Lib.hid (fun w' => vSame_any 3 r ByteArray.empty 0 3 r ByteArray.empty 0 w' hr2 hr2)
  rw [show sameV 3 r ByteArray.empty 0 3 r ByteArray.empty 0 = true from by unfold sameV; rw [if_pos ⟨rfl, rfl, hr1⟩]; exact hr1] at p0
  have p1 := Lib.hid (fun w' => vStrict_any 3 r ByteArray.empty 0 3 r ByteArray.empty 0 w' hr2 hr2)
  rw [show strictV 3 r ByteArray.empty 0 3 r ByteArray.empty 0 = false from by unfold strictV; rw [if_neg (by decide), if_neg (by simp), if_neg (by decide), if_pos (by decide)]; unfold Fl.feq; rw [hr1]; rfl] at p1
  have p2 := Lib.hid (fun w' => object_any 7 3 w')
  have p3 := Lib.hid (fun w' => object_any 6 3 w')
  have p4 := Lib.hid (fun w' => vSame_any 7 0 ByteArray.empty 3 6 0 ByteArray.empty 3 w' (by decide) (by decide))
  rw [show sameV 7 0 ByteArray.empty 3 6 0 ByteArray.empty 3 = true from by decide +kernel] at p4
  have p5 := Lib.hid (fun w' => vNum_any 4607182418800017408 w')
  have p6 := Lib.hid (fun w' => vBool_any true w')
  have p7 := Lib.hid (fun w' => vSame_any 3 4607182418800017408 ByteArray.empty 0 2 (bnum true) ByteArray.empty 0 w' (by decide) (by decide))
  rw [show sameV 3 4607182418800017408 ByteArray.empty 0 2 (bnum true) ByteArray.empty 0 = false from by decide +kernel] at p7
  have p8 := Lib.hid (fun w' => truth_any 3 r ByteArray.empty 0 w' (by decide) hr2)
  rw [show truthV 3 r ByteArray.empty = false from by unfold truthV; rw [if_pos (by decide), hr1]; simp] at p8
  have p9 := Lib.hid (fun w' => object_any 6 0 w')
  have p10 := Lib.hid (fun w' => truth_any 6 0 ByteArray.empty 0 w' (by decide) (by decide))
  rw [show truthV 6 0 ByteArray.empty = true from by decide +kernel] at p10
  have p11 := Lib.hid (fun w' => type_any 1 0 ByteArray.empty 0 w' (by decide))
  rw [show typeV 1 = ⟨#[111, 98, 106, 101, 99, 116]⟩ from by decide +kernel] at p11
  have p12 := Lib.hid (fun w' => vStr_any ⟨#[32, 55, 32]⟩ w')
  have p13 := Lib.hid (fun w' => vNum_any 4619567317775286272 w')
  have p14 := Lib.hid (fun w' => vPlain_any 4 0 ⟨#[32, 55, 32]⟩ 0 3 4619567317775286272 ByteArray.empty 0 w' (by decide) (by decide) (by decide) (by decide))
  rw [show plainG 4 0 ⟨#[32, 55, 32]⟩ 0 3 4619567317775286272 ByteArray.empty 0 = (true, 0) from by decide +kernel] at p14
  have p15 := Lib.hid (fun w' => vStr_any ⟨#[49]⟩ w')
  have p16 := Lib.hid (fun w' => vPlain_any 2 (bnum true) ByteArray.empty 0 4 0 ⟨#[49]⟩ 0 w' (by decide) (by decide) (by decide) (by decide))
  rw [show plainG 2 (bnum true) ByteArray.empty 0 4 0 ⟨#[49]⟩ 0 = (true, 0) from by decide +kernel] at p16
  have p17 := Lib.hid (fun w' => vPlain_any 0 0 ByteArray.empty 0 1 0 ByteArray.empty 0 w' (by decide) (by decide) (by decide) (by decide))
  rw [show plainG 0 0 ByteArray.empty 0 1 0 ByteArray.empty 0 = (true, 0) from by decide +kernel] at p17
  have p18 := Lib.hid (fun w' => vNum_any 0 w')
  have p19 := Lib.hid (fun w' => vPlain_any 1 0 ByteArray.empty 0 3 0 ByteArray.empty 0 w' (by decide) (by decide) (by decide) (by decide))
  rw [show plainG 1 0 ByteArray.empty 0 3 0 ByteArray.empty 0 = (false, 0) from by decide +kernel] at p19
  have p20 := Lib.hid (fun w' => vStr_any ⟨#[45, 48]⟩ w')
  have p21 := Lib.hid (fun w' => vPlain_any 4 0 ⟨#[45, 48]⟩ 0 3 0 ByteArray.empty 0 w' (by decide) (by decide) (by decide) (by decide))
  rw [show plainG 4 0 ⟨#[45, 48]⟩ 0 3 0 ByteArray.empty 0 = (false, 10) from by decide +kernel] at p21
  have p22 := Lib.hid (fun w' => object_any 6 1 w')
  have p23 := Lib.hid (fun w' => vPlain_any 6 0 ByteArray.empty 1 3 0 ByteArray.empty 0 w' (by decide) (by decide) (by decide) (by decide))
  rw [show plainG 6 0 ByteArray.empty 1 3 0 ByteArray.empty 0 = (false, 9) from by decide +kernel] at p23
  have p24 := Lib.hid (fun w' => vStr_any ⟨#[97, 10]⟩ w')
  have p25 := Lib.hid (fun w' => vText_any 4 0 ⟨#[97, 10]⟩ 0 w' (by decide) (by decide) (by decide) (by decide) (by decide))
  rw [show textV 4 0 ⟨#[97, 10]⟩ 0 = ⟨#[34, 97, 92, 110, 34]⟩ from by decide +kernel] at p25
  have p26 := Lib.hid (fun w' => object_any 7 4 w')
  have p27 := Lib.hid (fun w' => vText_any 7 0 ByteArray.empty 4 w' (by decide) (by decide) (by decide) (by decide) (by decide))
  rw [show textV 7 0 ByteArray.empty 4 = ⟨#[111, 98, 106, 101, 99, 116, 32, 52]⟩ from by show (⟨#[111, 98, 106, 101, 99, 116, 32]⟩ : ByteArray) ++ strOf (Lib.itoa ((4 : Nat) : Int)) = _; rw [Lib.itoa_nonneg, Lib.decDigits_one (by decide)]; rfl] at p27
  have p28 := Lib.hid (fun w' => object_any 5 2 w')
  have p29 := Lib.hid (fun w' => vText_any 5 0 ByteArray.empty 2 w' (by decide) (by decide) (by decide) (by decide) (by decide))
  rw [show textV 5 0 ByteArray.empty 2 = ⟨#[115, 121, 109, 98, 111, 108, 32, 50]⟩ from by show (⟨#[115, 121, 109, 98, 111, 108, 32]⟩ : ByteArray) ++ strOf (Lib.itoa ((2 : Nat) : Int)) = _; rw [Lib.itoa_nonneg, Lib.decDigits_one (by decide)]; rfl] at p29
  have p30 := Lib.hid (fun w' => object_any 6 4 w')
  have p31 := Lib.hid (fun w' => check_obj w')
  have p32 := Lib.hid (fun w' => object_any 5 4 w')
  have p33 := Lib.hid (fun w' => check_sym w')
  have p34 := Lib.hid (fun w' => check_neg 3 r ByteArray.empty 0 w')
  have p35 := Lib.hid (fun w' => vMay_any 9 0 ByteArray.empty 0 w' (by decide) (by decide))
  rw [show mayV 9 0 ByteArray.empty 0 = false from by decide +kernel] at p35
  have p36 := Lib.hid (fun w' => vNum_any 4602678819172646912 w')
  have p37 := Lib.hid (fun w' => vMay_any 3 4602678819172646912 ByteArray.empty 0 w' (by decide) (by decide))
  rw [show mayV 3 4602678819172646912 ByteArray.empty 0 = false from by decide +kernel] at p37
  have p38 := Lib.hid (fun w' => vMay_any 1 0 ByteArray.empty 1 w' (by decide) (by decide))
  rw [show mayV 1 0 ByteArray.empty 1 = false from by decide +kernel] at p38
  have p39 := Lib.hid (fun w' => type_any 9 0 ByteArray.empty 0 w' (by decide))
  rw [show typeV 9 = ⟨#[]⟩ from by decide +kernel] at p39
  have p40 := Lib.hid (fun w' => vText_any 9 0 ByteArray.empty 0 w' (by decide) (by decide) (by decide) (by decide) (by decide))
  rw [show textV 9 0 ByteArray.empty 0 = ⟨#[]⟩ from by decide +kernel] at p40
  have p41 := Lib.hid (fun w' => lawAlive w')
  unfold val at *
  clear htab hr1 hr2
  go_enter Tryd.func14, Tryd.ntmps14
  go_wp2_with fail
  refine (pn.out _).mono ?_; rintro e w1 ⟨rfl, b1⟩
  have A1 := Lib.hid (show Below w.heap.size w w1 from (Below.drew (Below.refl w.heap.size w)).trans b1)
  have A2 := Lib.hid (fun (o : Obj) => A1.out.trans ((below_one (w := w1) (o := o)).mono A1.out.size))
  clear b1
  go_wp2_with fail
  refine (p0.out _).mono ?_; rintro e y1 ⟨rfl, b⟩
  have C1 := Lib.hid b
  clear b
  have m0 : y1.cell? ⟨w1.heap.size, 0, none⟩ = some (.int .u8 3) := (C1.out.cell (p := ⟨w1.heap.size, 0, none⟩) (by simp)).trans (one_cell _ _ _ 0)
  have m1 : y1.cell? ⟨w1.heap.size, 1, none⟩ = some (.float .f64 r) := (C1.out.cell (p := ⟨w1.heap.size, 1, none⟩) (by simp)).trans (one_cell _ _ _ 1)
  have m2 : y1.cell? ⟨w1.heap.size, 2, none⟩ = some (.string ByteArray.empty) := (C1.out.cell (p := ⟨w1.heap.size, 2, none⟩) (by simp)).trans (one_cell _ _ _ 2)
  have m3 : y1.cell? ⟨w1.heap.size, 3, none⟩ = some (.int .i64 0) := (C1.out.cell (p := ⟨w1.heap.size, 3, none⟩) (by simp)).trans (one_cell _ _ _ 3)
  go_wp2_with fail
  clear m0 m1 m2 m3
  refine (p1.out _).mono ?_; rintro e y2 ⟨rfl, b⟩
  have C2 := Lib.hid (C1.out.trans (b.mono C1.out.size))
  clear b
  go_wp2_with fail
  refine (p2.out _).mono ?_; rintro e y3 ⟨rfl, b⟩
  have C3 := Lib.hid (C2.out.trans (b.mono C2.out.size))
  clear b
  go_wp2_with fail
  refine (p3.out _).mono ?_; rintro e y4 ⟨rfl, b⟩
  have C4 := Lib.hid (C3.out.trans (b.mono C3.out.size))
  clear b
  go_wp2_with fail
  refine (p4.out _).mono ?_; rintro e y5 ⟨rfl, b⟩
  have C5 := Lib.hid (C4.out.trans (b.mono C4.out.size))
  clear b
  go_wp2_with fail
  refine (p5.out _).mono ?_; rintro e y6 ⟨rfl, b⟩
  have C6 := Lib.hid (C5.out.trans (b.mono C5.out.size))
  clear b
  go_wp2_with fail
  refine (p6.out _).mono ?_; rintro e y7 ⟨rfl, b⟩
  have C7 := Lib.hid (C6.out.trans (b.mono C6.out.size))
  clear b
  go_wp2_with fail
  refine (p7.out _).mono ?_; rintro e y8 ⟨rfl, b⟩
  have C8 := Lib.hid (C7.out.trans (b.mono C7.out.size))
  clear b
  have m0 : y8.cell? ⟨w1.heap.size, 0, none⟩ = some (.int .u8 3) := (C8.out.cell (p := ⟨w1.heap.size, 0, none⟩) (by simp)).trans (one_cell _ _ _ 0)
  have m1 : y8.cell? ⟨w1.heap.size, 1, none⟩ = some (.float .f64 r) := (C8.out.cell (p := ⟨w1.heap.size, 1, none⟩) (by simp)).trans (one_cell _ _ _ 1)
  have m2 : y8.cell? ⟨w1.heap.size, 2, none⟩ = some (.string ByteArray.empty) := (C8.out.cell (p := ⟨w1.heap.size, 2, none⟩) (by simp)).trans (one_cell _ _ _ 2)
  have m3 : y8.cell? ⟨w1.heap.size, 3, none⟩ = some (.int .i64 0) := (C8.out.cell (p := ⟨w1.heap.size, 3, none⟩) (by simp)).trans (one_cell _ _ _ 3)
  go_wp2_with fail
  clear m0 m1 m2 m3
  refine (p8.out _).mono ?_; rintro e y9 ⟨rfl, b⟩
  have C9 := Lib.hid (C8.out.trans (b.mono C8.out.size))
  clear b
  go_wp2_with fail
  refine (p9.out _).mono ?_; rintro e y10 ⟨rfl, b⟩
  have C10 := Lib.hid (C9.out.trans (b.mono C9.out.size))
  clear b
  go_wp2_with fail
  refine (p10.out _).mono ?_; rintro e y11 ⟨rfl, b⟩
  have C11 := Lib.hid (C10.out.trans (b.mono C10.out.size))
  clear b
  go_wp2_with fail
  refine (p11.out _).mono ?_; rintro e y12 ⟨rfl, b⟩
  have C12 := Lib.hid (C11.out.trans (b.mono C11.out.size))
  clear b
  go_wp2_with fail
  refine (p12.out _).mono ?_; rintro e y13 ⟨rfl, b⟩
  have C13 := Lib.hid (C12.out.trans (b.mono C12.out.size))
  clear b
  go_wp2_with fail
  refine (p13.out _).mono ?_; rintro e y14 ⟨rfl, b⟩
  have C14 := Lib.hid (C13.out.trans (b.mono C13.out.size))
  clear b
  go_wp2_with fail
  refine (p14.out _).mono ?_; rintro e y15 ⟨rfl, b⟩
  have C15 := Lib.hid (C14.out.trans (b.mono C14.out.size))
  clear b
  go_wp2_with fail
  refine (p6.out _).mono ?_; rintro e y16 ⟨rfl, b⟩
  have C16 := Lib.hid (C15.out.trans (b.mono C15.out.size))
  clear b
  go_wp2_with fail
  refine (p15.out _).mono ?_; rintro e y17 ⟨rfl, b⟩
  have C17 := Lib.hid (C16.out.trans (b.mono C16.out.size))
  clear b
  go_wp2_with fail
  refine (p16.out _).mono ?_; rintro e y18 ⟨rfl, b⟩
  have C18 := Lib.hid (C17.out.trans (b.mono C17.out.size))
  clear b
  go_wp2_with fail
  refine (p17.out _).mono ?_; rintro e y19 ⟨rfl, b⟩
  have C19 := Lib.hid (C18.out.trans (b.mono C18.out.size))
  clear b
  go_wp2_with fail
  refine (p18.out _).mono ?_; rintro e y20 ⟨rfl, b⟩
  have C20 := Lib.hid (C19.out.trans (b.mono C19.out.size))
  clear b
  go_wp2_with fail
  refine (p19.out _).mono ?_; rintro e y21 ⟨rfl, b⟩
  have C21 := Lib.hid (C20.out.trans (b.mono C20.out.size))
  clear b
  go_wp2_with fail
  refine (p20.out _).mono ?_; rintro e y22 ⟨rfl, b⟩
  have C22 := Lib.hid (C21.out.trans (b.mono C21.out.size))
  clear b
  go_wp2_with fail
  refine (p18.out _).mono ?_; rintro e y23 ⟨rfl, b⟩
  have C23 := Lib.hid (C22.out.trans (b.mono C22.out.size))
  clear b
  go_wp2_with fail
  refine (p21.out _).mono ?_; rintro e y24 ⟨rfl, b⟩
  have C24 := Lib.hid (C23.out.trans (b.mono C23.out.size))
  clear b
  go_wp2_with fail
  refine (p22.out _).mono ?_; rintro e y25 ⟨rfl, b⟩
  have C25 := Lib.hid (C24.out.trans (b.mono C24.out.size))
  clear b
  go_wp2_with fail
  refine (p18.out _).mono ?_; rintro e y26 ⟨rfl, b⟩
  have C26 := Lib.hid (C25.out.trans (b.mono C25.out.size))
  clear b
  go_wp2_with fail
  refine (p23.out _).mono ?_; rintro e y27 ⟨rfl, b⟩
  have C27 := Lib.hid (C26.out.trans (b.mono C26.out.size))
  clear b
  go_wp2_with fail
  refine (p24.out _).mono ?_; rintro e y28 ⟨rfl, b⟩
  have C28 := Lib.hid (C27.out.trans (b.mono C27.out.size))
  clear b
  go_wp2_with fail
  refine (p25.out _ (tab_below ht.out ((A2.out _).trans (C28.out.mono (A2.out _).size)) (tab_size ht.out))).mono ?_; rintro e y29 ⟨rfl, b⟩
  have C29 := Lib.hid (C28.out.trans (b.mono C28.out.size))
  clear b
  go_wp2_with fail
  refine (p26.out _).mono ?_; rintro e y30 ⟨rfl, b⟩
  have C30 := Lib.hid (C29.out.trans (b.mono C29.out.size))
  clear b
  go_wp2_with fail
  refine (p27.out _ (tab_below ht.out ((A2.out _).trans (C30.out.mono (A2.out _).size)) (tab_size ht.out))).mono ?_; rintro e y31 ⟨rfl, b⟩
  have C31 := Lib.hid (C30.out.trans (b.mono C30.out.size))
  clear b
  go_wp2_with fail
  refine (p28.out _).mono ?_; rintro e y32 ⟨rfl, b⟩
  have C32 := Lib.hid (C31.out.trans (b.mono C31.out.size))
  clear b
  go_wp2_with fail
  refine (p29.out _ (tab_below ht.out ((A2.out _).trans (C32.out.mono (A2.out _).size)) (tab_size ht.out))).mono ?_; rintro e y33 ⟨rfl, b⟩
  have C33 := Lib.hid (C32.out.trans (b.mono C32.out.size))
  clear b
  go_wp2_with fail
  refine (p30.out _).mono ?_; rintro e y34 ⟨rfl, b⟩
  have C34 := Lib.hid (C33.out.trans (b.mono C33.out.size))
  clear b
  go_wp2_with fail
  refine (p31.out _).mono ?_; rintro e y35 ⟨rfl, b⟩
  have C35 := Lib.hid (C34.out.trans (b.mono C34.out.size))
  clear b
  go_wp2_with fail
  refine (p32.out _).mono ?_; rintro e y36 ⟨rfl, b⟩
  have C36 := Lib.hid (C35.out.trans (b.mono C35.out.size))
  clear b
  go_wp2_with fail
  refine (p33.out _).mono ?_; rintro e y37 ⟨rfl, b⟩
  have C37 := Lib.hid (C36.out.trans (b.mono C36.out.size))
  clear b
  have m0 : y37.cell? ⟨w1.heap.size, 0, none⟩ = some (.int .u8 3) := (C37.out.cell (p := ⟨w1.heap.size, 0, none⟩) (by simp)).trans (one_cell _ _ _ 0)
  have m1 : y37.cell? ⟨w1.heap.size, 1, none⟩ = some (.float .f64 r) := (C37.out.cell (p := ⟨w1.heap.size, 1, none⟩) (by simp)).trans (one_cell _ _ _ 1)
  have m2 : y37.cell? ⟨w1.heap.size, 2, none⟩ = some (.string ByteArray.empty) := (C37.out.cell (p := ⟨w1.heap.size, 2, none⟩) (by simp)).trans (one_cell _ _ _ 2)
  have m3 : y37.cell? ⟨w1.heap.size, 3, none⟩ = some (.int .i64 0) := (C37.out.cell (p := ⟨w1.heap.size, 3, none⟩) (by simp)).trans (one_cell _ _ _ 3)
  go_wp2_with fail
  clear m0 m1 m2 m3
  refine (p34.out _).mono ?_; rintro e y38 ⟨rfl, b⟩
  have C38 := Lib.hid (C37.out.trans (b.mono C37.out.size))
  clear b
  go_wp2_with fail
  refine (p35.out _).mono ?_; rintro e y39 ⟨rfl, b⟩
  have C39 := Lib.hid (C38.out.trans (b.mono C38.out.size))
  clear b
  go_wp2_with fail
  refine (p36.out _).mono ?_; rintro e y40 ⟨rfl, b⟩
  have C40 := Lib.hid (C39.out.trans (b.mono C39.out.size))
  clear b
  go_wp2_with fail
  refine (p37.out _).mono ?_; rintro e y41 ⟨rfl, b⟩
  have C41 := Lib.hid (C40.out.trans (b.mono C40.out.size))
  clear b
  go_wp2_with fail
  refine (p38.out _).mono ?_; rintro e y42 ⟨rfl, b⟩
  have C42 := Lib.hid (C41.out.trans (b.mono C41.out.size))
  clear b
  go_wp2_with fail
  refine (p39.out _).mono ?_; rintro e y43 ⟨rfl, b⟩
  have C43 := Lib.hid (C42.out.trans (b.mono C42.out.size))
  clear b
  go_wp2_with fail
  refine (p40.out _ (tab_below ht.out ((A2.out _).trans (C43.out.mono (A2.out _).size)) (tab_size ht.out))).mono ?_; rintro e y44 ⟨rfl, b⟩
  have C44 := Lib.hid (C43.out.trans (b.mono C43.out.size))
  clear b
  go_wp2_with fail
  refine (p41.out _).mono ?_; rintro e y45 ⟨rfl, b⟩
  have C45 := Lib.hid (C44.out.trans (b.mono C44.out.size))
  clear b
  go_wp2
  go_ret
  exact ⟨by simp, (A2.out _).trans (C45.out.mono (A2.out _).size)⟩
end Go.Proofs.YtajmdpndbfmdmaaDoor
