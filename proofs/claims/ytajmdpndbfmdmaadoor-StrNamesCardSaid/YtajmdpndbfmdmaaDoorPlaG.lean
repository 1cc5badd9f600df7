/-
  The walk of bailifflaw02.StrNames: a closed sentence. Conditions: the cell of internal/bytealg.MaxLen holds a whole number.
-/
import Derived.Test.YtajmdpndbfmdmaaDoorPlaE
import Derived.Test.YtajmdpndbfmdmaaDoorFlH
namespace Go.Proofs.YtajmdpndbfmdmaaDoor
open Go Go.RowKit

theorem part_nan2 (s : ByteArray) (x r : Nat) (h : Fl.isN r = true) : partS s x r = ⟨#[]⟩ := by
  unfold partS
  have e : Fl.placeS s.size r = 0 := by unfold Fl.placeS; rw [h]; rfl
  rw [e, if_pos (Nat.zero_le _)]; rfl
theorem part_nan1 (r : Nat) (h : Fl.isN r = true) : partS ⟨#[97, 98, 99]⟩ r 4613712638259704627 = ⟨#[97, 98]⟩ := by
  unfold partS
  have e : Fl.placeS (⟨#[97, 98, 99]⟩ : ByteArray).size r = 0 := by unfold Fl.placeS; rw [h]; rfl
  rw [e]
  decide +kernel

theorem n_part1 : partS ⟨#[97, 98, 99, 100, 101]⟩ 13835058055282163712 4636666922610458624 = ⟨#[100, 101]⟩ := by decide +kernel
theorem n_part2 : partS ⟨#[97, 98, 99]⟩ 4611686018427387904 4607182418800017408 = ⟨#[]⟩ := by decide +kernel
theorem n_part4 : partS ⟨#[97, 98, 99]⟩ 13844628204490326016 13832806255468478464 = ⟨#[97, 98]⟩ := by decide +kernel
theorem n_find0 : findS ⟨#[98, 97, 110, 97, 110, 97]⟩ ⟨#[97, 110]⟩ (2) = 3 := by decide +kernel
theorem n_find1 : findS ⟨#[97, 98, 99]⟩ ⟨#[]⟩ (9) = 3 := by decide +kernel
theorem n_find2 : findS ⟨#[97, 98, 99]⟩ ⟨#[100]⟩ (-1) = -1 := by decide +kernel
theorem n_find3 : findS ⟨#[]⟩ ⟨#[]⟩ (0) = 0 := by decide +kernel
theorem n_plain0 : plainV ⟨#[92, 120, 52, 49, 98]⟩ = (⟨#[65, 98]⟩, 0, 0) := by decide +kernel
theorem n_plain1 : plainV ⟨#[97, 92, 113]⟩ = (⟨#[]⟩, 1, 5) := by decide +kernel
theorem n_plain2 : plainV ⟨#[92, 120, 52]⟩ = (⟨#[]⟩, 0, 5) := by decide +kernel
theorem n_quote : strOf (Sp.quoteL (⟨#[97, 34, 10, 255]⟩ : ByteArray).data.toList) = ⟨#[34, 97, 92, 34, 92, 110, 92, 120, 102, 102, 34]⟩ := by decide +kernel
theorem n_rep0 : repeatS ⟨#[97, 98]⟩ (2) = (⟨#[97, 98, 97, 98]⟩, 0) := by decide +kernel
theorem n_rep1 : repeatS ⟨#[97]⟩ (-1) = (⟨#[]⟩, 2) := by decide +kernel
theorem n_rep2 : repeatS ⟨#[97]⟩ (4097) = (⟨#[]⟩, 20) := by decide +kernel
theorem n_rep3 : repeatS ⟨#[]⟩ (9) = (⟨#[]⟩, 0) := by decide +kernel
theorem n_at0 : atS ⟨#[97, 98, 99]⟩ (2) = (⟨#[99]⟩, true) := by decide +kernel
theorem n_at1 : atS ⟨#[97, 98, 99]⟩ (3) = (⟨#[]⟩, false) := by decide +kernel
theorem n_trim : trimV ⟨#[32, 97, 32, 13, 10]⟩ = ⟨#[97]⟩ := by decide +kernel
theorem n_less0 : lessV ⟨#[97]⟩ ⟨#[97, 98]⟩ = true := by decide +kernel
theorem n_less1 : lessV ⟨#[98]⟩ ⟨#[97, 98]⟩ = false := by decide +kernel

set_option maxHeartbeats 4000000 in
set_option maxRecDepth 100000 in
theorem strNames_walk (w : World) (m : Int) (hm : w.cell? ⟨1, 0, none⟩ = some (.int .i64 m)) (hw : 1 < w.heap.size) :
    Calls Tryd.prog 11 #[] w fun e w' => e = .returned (.bool true) ∧ Below w.heap.size w w' := by
  obtain ⟨r, hr1, hr2, hrun⟩ := Fl.run_nan (P := Tryd.prog) .quo 22 0 0 (by simp) Fl.div_none_zero w
  have hm' := Lib.hid hm
  clear hm
  have p0 := Lib.hid (fun w' => part_any ⟨#[97, 98, 99, 100, 101]⟩ 13835058055282163712 r w' (by decide) (by decide) hr2)
  rw [part_nan2 _ _ _ hr1] at p0
  have p1 := Lib.hid (fun w' => part_any ⟨#[97, 98, 99, 100, 101]⟩ 13835058055282163712 4636666922610458624 w' (by decide) (by decide) (by decide))
  rw [n_part1] at p1
  have p2 := Lib.hid (fun w' => part_any ⟨#[97, 98, 99]⟩ 4611686018427387904 4607182418800017408 w' (by decide) (by decide) (by decide))
  rw [n_part2] at p2
  have p3 := Lib.hid (fun w' => part_any ⟨#[97, 98, 99]⟩ r 4613712638259704627 w' (by decide) hr2 (by decide))
  rw [part_nan1 _ hr1] at p3
  have p4 := Lib.hid (fun w' => part_any ⟨#[97, 98, 99]⟩ 13844628204490326016 13832806255468478464 w' (by decide) (by decide) (by decide))
  rw [n_part4] at p4
  have f0 := Lib.hid (fun w' hm' => find_any ⟨#[98, 97, 110, 97, 110, 97]⟩ ⟨#[97, 110]⟩ (2) m w' (by decide) (by decide) (by decide) hm')
  rw [n_find0] at f0
  have f1 := Lib.hid (fun w' hm' => find_any ⟨#[97, 98, 99]⟩ ⟨#[]⟩ (9) m w' (by decide) (by decide) (by decide) hm')
  rw [n_find1] at f1
  have f2 := Lib.hid (fun w' hm' => find_any ⟨#[97, 98, 99]⟩ ⟨#[100]⟩ (-1) m w' (by decide) (by decide) (by decide) hm')
  rw [n_find2] at f2
  have f3 := Lib.hid (fun w' hm' => find_any ⟨#[]⟩ ⟨#[]⟩ (0) m w' (by decide) (by decide) (by decide) hm')
  rw [n_find3] at f3
  have l0 := Lib.hid (fun w' => plain_any ⟨#[92, 120, 52, 49, 98]⟩ w')
  rw [n_plain0] at l0
  have l1 := Lib.hid (fun w' => plain_any ⟨#[97, 92, 113]⟩ w')
  rw [n_plain1] at l1
  have l2 := Lib.hid (fun w' => plain_any ⟨#[92, 120, 52]⟩ w')
  rw [n_plain2] at l2
  have u := Lib.hid (fun w' => quote_any ⟨#[97, 34, 10, 255]⟩ w' (by decide))
  rw [n_quote] at u
  have r0 := Lib.hid (fun w' => repeat_any ⟨#[97, 98]⟩ (2) w' (by decide) (by decide) (by decide))
  rw [n_rep0] at r0
  have r1 := Lib.hid (fun w' => repeat_any ⟨#[97]⟩ (-1) w' (by decide) (by decide) (by decide))
  rw [n_rep1] at r1
  have r2 := Lib.hid (fun w' => repeat_any ⟨#[97]⟩ (4097) w' (by decide) (by decide) (by decide))
  rw [n_rep2] at r2
  have r3 := Lib.hid (fun w' => repeat_any ⟨#[]⟩ (9) w' (by decide) (by decide) (by decide))
  rw [n_rep3] at r3
  have a0 := Lib.hid (fun w' => at_any ⟨#[97, 98, 99]⟩ (2) w' (by decide))
  rw [n_at0] at a0
  have a1 := Lib.hid (fun w' => at_any ⟨#[97, 98, 99]⟩ (3) w' (by decide))
  rw [n_at1] at a1
  have t := Lib.hid (fun w' => trim_str ⟨#[32, 97, 32, 13, 10]⟩ w' (by decide))
  rw [n_trim] at t
  have s0 := Lib.hid (fun w' => less_str ⟨#[97]⟩ ⟨#[97, 98]⟩ w')
  rw [n_less0] at s0
  have s1 := Lib.hid (fun w' => less_str ⟨#[98]⟩ ⟨#[97, 98]⟩ w')
  rw [n_less1] at s1
  have v := Lib.hid (fun w' => alive_any w')
  clear hr1 hr2
  go_enter Tryd.func11, Tryd.ntmps11
  have B0 := Lib.hid (Below.drew (Below.refl w.heap.size w))
  go_wp2_with fail
  refine (p0.out _).mono ?_; rintro e w' ⟨rfl, rfl⟩
  go_wp2_with fail
  refine (p1.out _).mono ?_; rintro e w' ⟨rfl, rfl⟩
  go_wp2_with fail
  refine (p2.out _).mono ?_; rintro e w' ⟨rfl, rfl⟩
  go_wp2_with fail
  refine (p3.out _).mono ?_; rintro e w' ⟨rfl, rfl⟩
  go_wp2_with fail
  refine (p4.out _).mono ?_; rintro e w' ⟨rfl, rfl⟩
  go_wp2_with fail
  refine (f0.out _ ((B0.out.cell (p := ⟨1, 0, none⟩) hw).trans hm'.out)).mono ?_; rintro e w' ⟨rfl, rfl⟩
  go_wp2_with fail
  refine (f1.out _ ((B0.out.cell (p := ⟨1, 0, none⟩) hw).trans hm'.out)).mono ?_; rintro e w' ⟨rfl, rfl⟩
  go_wp2_with fail
  refine (f2.out _ ((B0.out.cell (p := ⟨1, 0, none⟩) hw).trans hm'.out)).mono ?_; rintro e w' ⟨rfl, rfl⟩
  go_wp2_with fail
  refine (f3.out _ ((B0.out.cell (p := ⟨1, 0, none⟩) hw).trans hm'.out)).mono ?_; rintro e w' ⟨rfl, rfl⟩
  go_wp2_with fail
  refine (l0.out _).mono ?_; rintro e y1 ⟨rfl, b1⟩
  have B1 := Lib.hid (B0.out.trans (b1.mono B0.out.size))
  clear b1
  go_wp2_with fail
  refine (l1.out _).mono ?_; rintro e y2 ⟨rfl, b2⟩
  have B2 := Lib.hid (B1.out.trans (b2.mono B1.out.size))
  clear b2
  go_wp2_with fail
  refine (l2.out _).mono ?_; rintro e y3 ⟨rfl, b3⟩
  have B3 := Lib.hid (B2.out.trans (b3.mono B2.out.size))
  clear b3
  go_wp2_with fail
  refine (u.out _).mono ?_; rintro e y4 ⟨rfl, b4⟩
  have B4 := Lib.hid (B3.out.trans (b4.mono B3.out.size))
  clear b4
  go_wp2_with fail
  refine (r0.out _).mono ?_; rintro e y5 ⟨rfl, b5⟩
  have B5 := Lib.hid (B4.out.trans (b5.mono B4.out.size))
  clear b5
  go_wp2_with fail
  refine (r1.out _).mono ?_; rintro e y6 ⟨rfl, b6⟩
  have B6 := Lib.hid (B5.out.trans (b6.mono B5.out.size))
  clear b6
  go_wp2_with fail
  refine (r2.out _).mono ?_; rintro e y7 ⟨rfl, b7⟩
  have B7 := Lib.hid (B6.out.trans (b7.mono B6.out.size))
  clear b7
  go_wp2_with fail
  refine (r3.out _).mono ?_; rintro e y8 ⟨rfl, b8⟩
  have B8 := Lib.hid (B7.out.trans (b8.mono B7.out.size))
  clear b8
  go_wp2_with fail
  refine (a0.out _).mono ?_; rintro e w' ⟨rfl, rfl⟩
  go_wp2_with fail
  refine (a1.out _).mono ?_; rintro e w' ⟨rfl, rfl⟩
  go_wp2_with fail
  refine (t.out _).mono ?_; rintro e y9 ⟨rfl, b9⟩
  have B9 := Lib.hid (B8.out.trans (b9.mono B8.out.size))
  clear b9
  go_wp2_with fail
  refine (s0.out _).mono ?_; rintro e w' ⟨rfl, rfl⟩
  go_wp2_with fail
  refine (s1.out _).mono ?_; rintro e w' ⟨rfl, rfl⟩
  go_wp2_with fail
  refine (v.out _).mono ?_; rintro e y10 ⟨rfl, b10⟩
  have B10 := Lib.hid (B9.out.trans (b10.mono B9.out.size))
  clear b10
  go_wp2
  go_ret
  exact ⟨by simp, B10.out⟩
end Go.Proofs.YtajmdpndbfmdmaaDoor
