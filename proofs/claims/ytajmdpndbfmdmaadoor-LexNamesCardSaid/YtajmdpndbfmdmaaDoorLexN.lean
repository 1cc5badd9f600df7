/-
  LexNames.
-/
import Derived.Test.YtajmdpndbfmdmaaDoorLexM
namespace Go.Proofs.YtajmdpndbfmdmaaDoor
open Go Go.RowKit

theorem ln_shift : Lx.Lexes [97, 62, 62, 62, 61, 98] ([(0, 1, [97], 0), (1, 5, [62, 62, 62], 0), (4, 5, [61], 0), (5, 1, [98], 0), (6, 0, [], 0)], 0, 0) := ⟨20, by kernel_rfl⟩
theorem ln_same : Lx.Lexes [97, 61, 61, 61, 98] ([(0, 1, [97], 0), (1, 5, [61, 61, 61], 0), (4, 1, [98], 0), (5, 0, [], 0)], 0, 0) := ⟨20, by kernel_rfl⟩
theorem ln_only0 : Lx.Lexes [97, 47, 42, 98, 42, 47, 32, 47, 47, 32, 99] ([(0, 1, [97], 0), (11, 0, [], 0)], 0, 0) := ⟨20, by kernel_rfl⟩
theorem ln_only1 : Lx.Lexes [39, 97, 92, 34, 98, 39] ([(0, 4, [97, 34, 98], 0), (6, 0, [], 0)], 0, 0) := ⟨20, by kernel_rfl⟩
theorem ln_only2 : Lx.Lexes [34, 92, 120, 52, 49, 34] ([(0, 4, [65], 0), (6, 0, [], 0)], 0, 0) := ⟨20, by kernel_rfl⟩
theorem ln_wrong0 : Lx.Lexes [48, 49] ([], 0, 5) := ⟨20, by kernel_rfl⟩
theorem ln_wrong1 : Lx.Lexes [49, 97] ([], 0, 5) := ⟨20, by kernel_rfl⟩
theorem ln_wrong2 : Lx.Lexes [57, 48, 48, 55, 49, 57, 57, 50, 53, 52, 55, 52, 48, 57, 57, 50] ([], 0, 5) := ⟨20, by kernel_rfl⟩
theorem ln_wrong3 : Lx.Lexes [34, 97] ([], 0, 5) := ⟨20, by kernel_rfl⟩
theorem ln_wrong4 : Lx.Lexes [47, 42] ([], 0, 5) := ⟨20, by kernel_rfl⟩
theorem ln_wrong5 : Lx.Lexes [97, 35] ([], 1, 5) := ⟨20, by kernel_rfl⟩
theorem ln_wrong6 : Lx.Lexes [34, 97, 92, 113, 34] ([], 2, 5) := ⟨20, by kernel_rfl⟩

theorem ln_toks (w : World) : Toks (w.alloc (.cells #[.int .u8 2, .int .i64 0, .string ⟨#[108, 101, 116]⟩, .float .f64 0, .int .u8 1, .int .i64 0, .string ⟨#[120]⟩, .float .f64 0, .int .u8 0, .int .i64 0, .string ⟨#[]⟩, .float .f64 0] 44)) (.slice (some ⟨w.heap.size, 0, none⟩) 3 3) [(0, 2, [108, 101, 116], 0), (0, 1, [120], 0), (0, 0, [], 0)] := by
  have hc := fun i => one_cell w #[.int .u8 2, .int .i64 0, .string ⟨#[108, 101, 116]⟩, .float .f64 0, .int .u8 1, .int .i64 0, .string ⟨#[120]⟩, .float .f64 0, .int .u8 0, .int .i64 0, .string ⟨#[]⟩, .float .f64 0] 44 i
  refine ⟨_, _, rfl, by decide, .inr ⟨w.heap.size, 0, rfl, by simp, fun i t hi => ?_⟩⟩
  match i, hi with
  | 0, hi => obtain rfl := Option.some.inj hi; exact ⟨hc 0, hc 1, hc 2, hc 3⟩
  | 1, hi => obtain rfl := Option.some.inj hi; exact ⟨hc 4, hc 5, hc 6, hc 7⟩
  | 2, hi => obtain rfl := Option.some.inj hi; exact ⟨hc 8, hc 9, hc 10, hc 11⟩
theorem ln_text : Lx.textL [(2, [108, 101, 116], 0), (1, [120], 0), (0, [], 0)] = ([108, 101, 116, 32, 120], 0) := by decide +kernel

set_option maxHeartbeats 16000000 in
set_option maxRecDepth 100000 in
theorem lexNames_walk (m : Int) (w : World) (hm : w.cell? ⟨1, 0, none⟩ = some (.int .i64 m)) (hw : 1 < w.heap.size) (htab : Lib.TabIs Tryd.prog w "internal/strconv.uint64pow10" .u64 Lib.pow10Tab) :
    Calls Tryd.prog 15 #[] w fun e w' => e = .returned (.bool true) ∧ Below w.heap.size w w' := by
  obtain ⟨i0, hi, hz0, hz1, hz2⟩ := info_parts tok_info
  have ht := Lib.hid htab
  have hm' := Lib.hid hm
  have q1 := Lib.hid (fun w' hm hw => lex_any ⟨#[97, 62, 62, 62, 61, 98]⟩ m w' (by decide) hm hw)
  have q2 := Lib.hid (fun w' hm hw => lex_any ⟨#[97, 61, 61, 61, 98]⟩ m w' (by decide) hm hw)
  have o0 := Lib.hid (fun w' hm hw => only_true ⟨#[97, 47, 42, 98, 42, 47, 32, 47, 47, 32, 99]⟩ 1 ⟨#[97]⟩ 0 11 0 m w' (by decide) hm hw ln_only0)
  have o1 := Lib.hid (fun w' hm hw => only_true ⟨#[39, 97, 92, 34, 98, 39]⟩ 4 ⟨#[97, 34, 98]⟩ 0 6 0 m w' (by decide) hm hw ln_only1)
  have o2 := Lib.hid (fun w' hm hw => only_true ⟨#[34, 92, 120, 52, 49, 34]⟩ 4 ⟨#[65]⟩ 0 6 0 m w' (by decide) hm hw ln_only2)
  have r0 := Lib.hid (fun w' hm hw => wrong_true ⟨#[48, 49]⟩ 0 m w' (by decide) hm hw ln_wrong0)
  have r1 := Lib.hid (fun w' hm hw => wrong_true ⟨#[49, 97]⟩ 0 m w' (by decide) hm hw ln_wrong1)
  have r2 := Lib.hid (fun w' hm hw => wrong_true ⟨#[57, 48, 48, 55, 49, 57, 57, 50, 53, 52, 55, 52, 48, 57, 57, 50]⟩ 0 m w' (by decide) hm hw ln_wrong2)
  have r3 := Lib.hid (fun w' hm hw => wrong_true ⟨#[34, 97]⟩ 0 m w' (by decide) hm hw ln_wrong3)
  have r4 := Lib.hid (fun w' hm hw => wrong_true ⟨#[47, 42]⟩ 0 m w' (by decide) hm hw ln_wrong4)
  have r5 := Lib.hid (fun w' hm hw => wrong_true ⟨#[97, 35]⟩ 1 m w' (by decide) hm hw ln_wrong5)
  have r6 := Lib.hid (fun w' hm hw => wrong_true ⟨#[34, 97, 92, 113, 34]⟩ 2 m w' (by decide) hm hw ln_wrong6)
  have qa := Lib.hid (fun w' hm hw => lexAlive m w' hm hw)
  have y0 := Lib.hid (fun w' hm => lexWord_any ⟨#[116, 121, 112, 101, 111, 102]⟩ m w' (by decide) hm)
  have y1 := Lib.hid (fun w' hm => lexWord_any ⟨#[111, 102]⟩ m w' (by decide) hm)
  have y2 := Lib.hid (fun w' hm => lexSign_any ⟨#[62, 62, 62]⟩ m w' (by decide) hm)
  have y3 := Lib.hid (fun w' hm => lexSign_any ⟨#[61, 62]⟩ m w' (by decide) hm)
  rw [show Lx.wrd (⟨#[116, 121, 112, 101, 111, 102]⟩ : ByteArray).data.toList = true from by decide +kernel] at y0
  rw [show Lx.wrd (⟨#[111, 102]⟩ : ByteArray).data.toList = false from by decide +kernel] at y1
  rw [show Lx.sgn (⟨#[62, 62, 62]⟩ : ByteArray).data.toList = true from by decide +kernel] at y2
  rw [show Lx.sgn (⟨#[61, 62]⟩ : ByteArray).data.toList = false from by decide +kernel] at y3
  clear hm htab
  go_enter Tryd.func15, Tryd.ntmps15
  go_wp2_with fail
  refine (q1.out _ hm'.out hw).mono ?_
  rintro e w1 ⟨l, p, f, v, hl, rfl, hr, hb⟩
  have hd := Lx.Ends.det hl ln_shift
  injection hd with e1 e2
  injection e2 with e2 e3
  subst e1 e2 e3
  obtain ⟨g1, cap1, rfl, hg1, hlt1, hcell1, hcap1⟩ := hr.at
  have B1 := Lib.hid hb
  have a1 : w1.cell? ⟨g1, 6, none⟩ = some (.string ⟨#[62, 62, 62]⟩) := hcell1 6 _ rfl
  have a2 : w1.cell? ⟨g1, 10, none⟩ = some (.string ⟨#[61]⟩) := hcell1 10 _ rfl
  clear hb hr hl hcell1 hcap1
  go_wp2_with fail
  refine (q2.out _ ?_ ?_).mono ?_
  · exact (B1.out.cell (p := ⟨1, 0, none⟩) hw).trans hm'.out
  · exact Nat.lt_of_lt_of_le hw B1.out.size
  rintro e w2 ⟨l, p, f, v, hl, rfl, hr, hb⟩
  have hd := Lx.Ends.det hl ln_same
  injection hd with e1 e2
  injection e2 with e2 e3
  subst e1 e2 e3
  obtain ⟨g2, cap2, rfl, hg2, hlt2, hcell2, hcap2⟩ := hr.at
  have B2 := Lib.hid (B1.out.trans (hb.mono B1.out.size))
  have a3 : w2.cell? ⟨g2, 6, none⟩ = some (.string ⟨#[61, 61, 61]⟩) := hcell2 6 _ rfl
  have a4 := (hb.cell (p := ⟨g1, 6, none⟩) hlt1).trans a1
  have a5 := (hb.cell (p := ⟨g1, 10, none⟩) hlt1).trans a2
  clear hb hr hl hcell2 hcap2 a1 a2
  go_wp2_with fail
  refine (o0.out _ ?_ ?_).mono ?_
  · exact (B2.out.cell (p := ⟨1, 0, none⟩) hw).trans hm'.out
  · exact Nat.lt_of_lt_of_le hw B2.out.size
  rintro e w3 ⟨rfl, b⟩
  have B3 := Lib.hid (B2.out.trans (b.mono B2.out.size))
  clear b
  go_wp2_with fail
  refine (o1.out _ ?_ ?_).mono ?_
  · exact (B3.out.cell (p := ⟨1, 0, none⟩) hw).trans hm'.out
  · exact Nat.lt_of_lt_of_le hw B3.out.size
  rintro e w4 ⟨rfl, b⟩
  have B4 := Lib.hid (B3.out.trans (b.mono B3.out.size))
  clear b
  go_wp2_with fail
  refine (o2.out _ ?_ ?_).mono ?_
  · exact (B4.out.cell (p := ⟨1, 0, none⟩) hw).trans hm'.out
  · exact Nat.lt_of_lt_of_le hw B4.out.size
  rintro e w5 ⟨rfl, b⟩
  have B5 := Lib.hid (B4.out.trans (b.mono B4.out.size))
  clear b
  go_wp2_with fail
  refine (r0.out _ ?_ ?_).mono ?_
  · exact (B5.out.cell (p := ⟨1, 0, none⟩) hw).trans hm'.out
  · exact Nat.lt_of_lt_of_le hw B5.out.size
  rintro e w6 ⟨rfl, b⟩
  have B6 := Lib.hid (B5.out.trans (b.mono B5.out.size))
  clear b
  go_wp2_with fail
  refine (r1.out _ ?_ ?_).mono ?_
  · exact (B6.out.cell (p := ⟨1, 0, none⟩) hw).trans hm'.out
  · exact Nat.lt_of_lt_of_le hw B6.out.size
  rintro e w7 ⟨rfl, b⟩
  have B7 := Lib.hid (B6.out.trans (b.mono B6.out.size))
  clear b
  go_wp2_with fail
  refine (r2.out _ ?_ ?_).mono ?_
  · exact (B7.out.cell (p := ⟨1, 0, none⟩) hw).trans hm'.out
  · exact Nat.lt_of_lt_of_le hw B7.out.size
  rintro e w8 ⟨rfl, b⟩
  have B8 := Lib.hid (B7.out.trans (b.mono B7.out.size))
  clear b
  go_wp2_with fail
  refine (r3.out _ ?_ ?_).mono ?_
  · exact (B8.out.cell (p := ⟨1, 0, none⟩) hw).trans hm'.out
  · exact Nat.lt_of_lt_of_le hw B8.out.size
  rintro e w9 ⟨rfl, b⟩
  have B9 := Lib.hid (B8.out.trans (b.mono B8.out.size))
  clear b
  go_wp2_with fail
  refine (r4.out _ ?_ ?_).mono ?_
  · exact (B9.out.cell (p := ⟨1, 0, none⟩) hw).trans hm'.out
  · exact Nat.lt_of_lt_of_le hw B9.out.size
  rintro e w10 ⟨rfl, b⟩
  have B10 := Lib.hid (B9.out.trans (b.mono B9.out.size))
  clear b
  go_wp2_with fail
  refine (r5.out _ ?_ ?_).mono ?_
  · exact (B10.out.cell (p := ⟨1, 0, none⟩) hw).trans hm'.out
  · exact Nat.lt_of_lt_of_le hw B10.out.size
  rintro e w11 ⟨rfl, b⟩
  have B11 := Lib.hid (B10.out.trans (b.mono B10.out.size))
  clear b
  go_wp2_with fail
  refine (r6.out _ ?_ ?_).mono ?_
  · exact (B11.out.cell (p := ⟨1, 0, none⟩) hw).trans hm'.out
  · exact Nat.lt_of_lt_of_le hw B11.out.size
  rintro e w12 ⟨rfl, b⟩
  have B12 := Lib.hid (B11.out.trans (b.mono B11.out.size))
  clear b
  go_wp2_with fail
  have BT := Lib.hid (B12.out.alloc B12.out.size (.cells #[.int .u8 2, .int .i64 0, .string ⟨#[108, 101, 116]⟩, .float .f64 0, .int .u8 1, .int .i64 0, .string ⟨#[120]⟩, .float .f64 0, .int .u8 0, .int .i64 0, .string ⟨#[]⟩, .float .f64 0] 44))
  refine (lexText_any _ _ m _ (ln_toks _) (by decide) (by decide) ?_ ?_ ?_).mono ?_
  · exact (BT.out.cell (p := ⟨1, 0, none⟩) hw).trans hm'.out
  · exact Nat.lt_of_lt_of_le hw BT.out.size
  · exact tab_below ht.out BT.out (tab_size ht.out)
  rintro e w13 ⟨rfl, b⟩
  rw [show List.map (·.2) [((0 : Int), ((2, [108, 101, 116], 0) : Lx.Tk)), (0, 1, [120], 0), (0, 0, [], 0)] = [(2, [108, 101, 116], 0), (1, [120], 0), (0, [], 0)] from rfl, ln_text]
  rw [show strOf ([108, 101, 116, 32, 120], 0).1 = ⟨#[108, 101, 116, 32, 120]⟩ from rfl]
  have B13 := Lib.hid (BT.out.trans (b.mono BT.out.size))
  clear b
  go_wp2_with fail
  refine (text_none _ _ _).mono ?_
  rintro e w14 ⟨rfl, b⟩
  rw [show Lx.textL [] = ([], 5) from rfl]
  have B14 := Lib.hid (B13.out.trans (b.mono B13.out.size))
  clear b
  go_wp2_with fail
  refine (qa.out _ ?_ ?_).mono ?_
  · exact (B14.out.cell (p := ⟨1, 0, none⟩) hw).trans hm'.out
  · exact Nat.lt_of_lt_of_le hw B14.out.size
  rintro e w15 ⟨rfl, b⟩
  have B15 := Lib.hid (B14.out.trans (b.mono B14.out.size))
  clear b
  go_wp2_with fail
  refine (y0.out _ ?_).mono ?_
  · exact (B15.out.cell (p := ⟨1, 0, none⟩) hw).trans hm'.out
  rintro e w16 ⟨rfl, rfl⟩
  go_wp2_with fail
  refine (y1.out _ ?_).mono ?_
  · exact (B15.out.cell (p := ⟨1, 0, none⟩) hw).trans hm'.out
  rintro e w17 ⟨rfl, rfl⟩
  go_wp2_with fail
  refine (y2.out _ ?_).mono ?_
  · exact (B15.out.cell (p := ⟨1, 0, none⟩) hw).trans hm'.out
  rintro e w18 ⟨rfl, rfl⟩
  go_wp2_with fail
  refine (y3.out _ ?_).mono ?_
  · exact (B15.out.cell (p := ⟨1, 0, none⟩) hw).trans hm'.out
  rintro e w19 ⟨rfl, rfl⟩
  go_wp2
  go_ret
  exact ⟨rfl, B15.out⟩
end Go.Proofs.YtajmdpndbfmdmaaDoor
