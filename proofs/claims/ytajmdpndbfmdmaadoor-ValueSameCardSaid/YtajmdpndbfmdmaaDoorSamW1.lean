/-
  A part of the walk of bailifflaw07.ValueSame. Conditions: the kinds are bytes, the numbers words of 64 bits, the places whole numbers of 64 bits; the table of powers of ten lies.
-/
import Derived.Test.YtajmdpndbfmdmaaDoorSamV
namespace Go.Proofs.YtajmdpndbfmdmaaDoor
open Go Go.RowKit Go.BigFrame
set_option linter.unusedVariables false

set_option maxHeartbeats 8000000 in
set_option maxRecDepth 100000 in
theorem sam_f_3b (k : Int) (x : Nat) (s : ByteArray) (r : Int) (k' : Int) (x' : Nat) (s' : ByteArray) (r' : Int) (k'' : Int) (x'' : Nat) (s'' : ByteArray) (r'' : Int) (w : World) (hk : 0 ≤ k) (hk' : 0 ≤ k') (hk'' : 0 ≤ k'') (hx : x < 18446744073709551616) (hy : x' < 18446744073709551616) (hu : x'' < 18446744073709551616)
    (ma : mayV k x s r = true) (mb : mayV k' x' s' r' = true) (mc : mayV k'' x'' s'' r'' = true) (h0 : -9223372036854775808 ≤ r) (h1 : r ≤ 9223372036854775807) (h0' : -9223372036854775808 ≤ r') (h1' : r' ≤ 9223372036854775807) (htab : Lib.TabIs Tryd.prog w "internal/strconv.uint64pow10" .u64 Lib.pow10Tab) (hA : sameV k x s r k' x' s' r' = false) (h3 : k = 3) (ho : isObj k = false) (ho' : isObj k' = true) :
    Calls Tryd.prog 12 #[val k x s r, val k' x' s' r', val k'' x'' s'' r''] w fun e w' => e = .returned (.bool true) ∧ Below w.heap.size w w' := by
  have qv := Lib.hid (fun w' => lawAlive w')
  have m0 := Lib.hid (fun w' => vMay_any k x s r w' hk hx)
  have m1 := Lib.hid (fun w' => vMay_any k' x' s' r' w' hk' hy)
  have m2 := Lib.hid (fun w' => vMay_any k'' x'' s'' r'' w' hk'' hu)
  rw [ma] at m0
  rw [mb] at m1
  rw [mc] at m2
  have ht := Lib.hid htab
  have q00 := Lib.hid (fun w' => vSame_any k x s r k x s r w' hx hx)
  rw [same_refl hk ma] at q00
  have q01 := Lib.hid (fun w' => vSame_any k x s r k' x' s' r' w' hx hy)
  rw [hA] at q01
  have q10 := Lib.hid (fun w' => vSame_any k' x' s' r' k x s r w' hy hx)
  rw [same_comm, hA] at q10
  have c0 := Lib.hid (fun w' => calls_any k x s r w')
  have c1 := Lib.hid (fun w' => calls_any k' x' s' r' w')
  have t01 := Lib.hid (fun w' => vStrict_any k x s r k' x' s' r' w' hx hy)
  have p01 := Lib.hid (fun w' => vPlain_any k x s r k' x' s' r' w' hk hk' hx hy)
  have p10 := Lib.hid (fun w' => vPlain_any k' x' s' r' k x s r w' hk' hk hy hx)
  have j0 := Lib.hid (fun w' => vObj_any k x s r w')
  have j1 := Lib.hid (fun w' => vObj_any k' x' s' r' w')
  have e1 := Fl.ord_neq hx hx
  rw [Fl.feq_self, Bool.not_not] at e1
  generalize Fl.isN x = N at e1
  have hst : strictV k x s r k' x' s' r' = false := by rw [strict_same, hA]; rfl
  rw [hst] at t01
  rw [plainG_comm, plainG_obj (.inr ho')] at p10
  rw [plainG_obj (.inr ho')] at p01
  rw [ho] at j0
  rw [ho'] at j1
  generalize callsV k = d at *
  generalize callsV k' = d' at *
  clear hx hy hu hk hk' hk'' ma mb mc h0 h1 h0' h1' htab hA ho hst ho'
  subst h3
  unfold val at *
  go_enter Tryd.func12, Tryd.ntmps12
  go_wp2_with fail
  refine (qv.out _).mono ?_; rintro e w1 ⟨rfl, b1⟩
  obtain ⟨hc, hf⟩ := bcell b1
  have B1 := Lib.hid b1
  clear b1
  go_wp2_with fail
  refine (m0.out _).mono ?_; rintro e w2 ⟨rfl, b2⟩
  have B2 := Lib.hid (B1.out.trans (b2.mono B1.out.size))
  clear b2 hc hf
  obtain ⟨hc, hf⟩ := bcell B2.out
  go_wp2_with fail
  refine (m1.out _).mono ?_; rintro e w3 ⟨rfl, b3⟩
  have B3 := Lib.hid (B2.out.trans (b3.mono B2.out.size))
  clear b3 hc hf
  obtain ⟨hc, hf⟩ := bcell B3.out
  go_wp2_with fail
  refine (m2.out _).mono ?_; rintro e w4 ⟨rfl, b4⟩
  have B4 := Lib.hid (B3.out.trans (b4.mono B3.out.size))
  clear b4 hc hf
  obtain ⟨hc, hf⟩ := bcell B4.out
  go_wp2_with fail
  have hz : w.heap.size + 1 + 1 < w4.heap.size := by have := B4.out.size; simp at this; omega
  have z00 : w4.cell? ⟨w.heap.size, 0, none⟩ = some (.int .u8 3) := (hc (w.heap.size) 0 (by simp <;> omega)).trans (third_cell _ _ _ _ _ 0)
  have z01 : w4.cell? ⟨w.heap.size, 1, none⟩ = some (.float .f64 x) := (hc (w.heap.size) 1 (by simp <;> omega)).trans (third_cell _ _ _ _ _ 1)
  have z02 : w4.cell? ⟨w.heap.size, 2, none⟩ = some (.string s) := (hc (w.heap.size) 2 (by simp <;> omega)).trans (third_cell _ _ _ _ _ 2)
  have z03 : w4.cell? ⟨w.heap.size, 3, none⟩ = some (.int .i64 r) := (hc (w.heap.size) 3 (by simp <;> omega)).trans (third_cell _ _ _ _ _ 3)
  have z10 : w4.cell? ⟨w.heap.size + 1, 0, none⟩ = some (.int .u8 k') := (hc (w.heap.size + 1) 0 (by simp <;> omega)).trans (mid_cell _ _ _ _ _ 0)
  have z11 : w4.cell? ⟨w.heap.size + 1, 1, none⟩ = some (.float .f64 x') := (hc (w.heap.size + 1) 1 (by simp <;> omega)).trans (mid_cell _ _ _ _ _ 1)
  have z12 : w4.cell? ⟨w.heap.size + 1, 2, none⟩ = some (.string s') := (hc (w.heap.size + 1) 2 (by simp <;> omega)).trans (mid_cell _ _ _ _ _ 2)
  have z13 : w4.cell? ⟨w.heap.size + 1, 3, none⟩ = some (.int .i64 r') := (hc (w.heap.size + 1) 3 (by simp <;> omega)).trans (mid_cell _ _ _ _ _ 3)
  have z20 : w4.cell? ⟨w.heap.size + 1 + 1, 0, none⟩ = some (.int .u8 k'') := (hc (w.heap.size + 1 + 1) 0 (by simp <;> omega)).trans (last_cell _ _ _ _ _ 0)
  have z21 : w4.cell? ⟨w.heap.size + 1 + 1, 1, none⟩ = some (.float .f64 x'') := (hc (w.heap.size + 1 + 1) 1 (by simp <;> omega)).trans (last_cell _ _ _ _ _ 1)
  have z22 : w4.cell? ⟨w.heap.size + 1 + 1, 2, none⟩ = some (.string s'') := (hc (w.heap.size + 1 + 1) 2 (by simp <;> omega)).trans (last_cell _ _ _ _ _ 2)
  have z23 : w4.cell? ⟨w.heap.size + 1 + 1, 3, none⟩ = some (.int .i64 r'') := (hc (w.heap.size + 1 + 1) 3 (by simp <;> omega)).trans (last_cell _ _ _ _ _ 3)
  have hS4 : Tri w 3 x s r k' x' s' r' k'' x'' s'' r'' w4 := ⟨z00, z01, z02, z03, z10, z11, z12, z13, z20, z21, z22, z23, hz, below_four B4.out⟩
  clear z00 z01 z02 z03 z10 z11 z12 z13 z20 z21 z22 z23 hc hf hz B1 B2 B3 B4
  refine wp_region_class (C := Tri w 3 x s r k' x' s' r' k'' x'' s'' r'') (by kernel_rfl) (by kernel_rfl) hS4.drew ?_
  go_big_quiet_want
  refine quiet_run (tri_load0 rfl rfl) ?_
  go_big_quiet_on
  simp only [Act.put, List.setIfInBounds_toArray, List.set_cons_zero, List.set_cons_succ]
  go_big_quiet_want
  refine quiet_run (tri_load0 rfl rfl) ?_
  go_big_quiet_on
  simp only [Act.put, List.setIfInBounds_toArray, List.set_cons_zero, List.set_cons_succ]
  go_big_quiet_want
  go_big_quiet_op
  apply Exists.intro
  refine ⟨fun w' hw' => ?_, ?_⟩
  · refine (q00.out _).mono ?_; rintro e w'' ⟨rfl, b⟩; exact ⟨rfl, hw'.keep b⟩
  go_big_quiet_on
  go_big_quiet_want
  go_big_quiet_op
  first | go_big_quiet_on | (refine ⟨_, fun _ _ => rfl, ?_⟩; go_big_quiet_on)
  go_big_quiet_want
  go_big_quiet_op
  go_big_quiet_on
  go_big_quiet_want
  refine quiet_run (tri_load0 rfl rfl) ?_
  go_big_quiet_on
  simp only [Act.put, List.setIfInBounds_toArray, List.set_cons_zero, List.set_cons_succ]
  go_big_quiet_want
  refine quiet_run (tri_load1 rfl rfl) ?_
  go_big_quiet_on
  simp only [Act.put, List.setIfInBounds_toArray, List.set_cons_zero, List.set_cons_succ]
  go_big_quiet_want
  go_big_quiet_op
  apply Exists.intro
  refine ⟨fun w' hw' => ?_, ?_⟩
  · refine (q01.out _).mono ?_; rintro e w'' ⟨rfl, b⟩; exact ⟨rfl, hw'.keep b⟩
  go_big_quiet_on
  go_big_quiet_want
  refine quiet_run (tri_load1 rfl rfl) ?_
  go_big_quiet_on
  simp only [Act.put, List.setIfInBounds_toArray, List.set_cons_zero, List.set_cons_succ]
  go_big_quiet_want
  refine quiet_run (tri_load0 rfl rfl) ?_
  go_big_quiet_on
  simp only [Act.put, List.setIfInBounds_toArray, List.set_cons_zero, List.set_cons_succ]
  go_big_quiet_want
  go_big_quiet_op
  apply Exists.intro
  refine ⟨fun w' hw' => ?_, ?_⟩
  · refine (q10.out _).mono ?_; rintro e w'' ⟨rfl, b⟩; exact ⟨rfl, hw'.keep b⟩
  go_big_quiet_on
  go_big_quiet_want
  go_big_quiet_op
  first | go_big_quiet_on | (refine ⟨_, fun _ _ => rfl, ?_⟩; go_big_quiet_on)
  go_big_quiet_want
  go_big_quiet_op
  first | go_big_quiet_on | (refine ⟨_, fun _ _ => rfl, ?_⟩; go_big_quiet_on)
  go_big_quiet_want
  go_big_quiet_op
  go_big_quiet_on
  go_big_quiet_want
  refine quiet_run (tri_load0 rfl rfl) ?_
  go_big_quiet_on
  simp only [Act.put, List.setIfInBounds_toArray, List.set_cons_zero, List.set_cons_succ]
  go_big_quiet_want
  refine quiet_run (tri_load1 rfl rfl) ?_
  go_big_quiet_on
  simp only [Act.put, List.setIfInBounds_toArray, List.set_cons_zero, List.set_cons_succ]
  go_big_quiet_want
  go_big_quiet_op
  apply Exists.intro
  refine ⟨fun w' hw' => ?_, ?_⟩
  · refine (q01.out _).mono ?_; rintro e w'' ⟨rfl, b⟩; exact ⟨rfl, hw'.keep b⟩
  go_big_quiet_on
  go_big_quiet_want
  go_big_quiet_op
  go_big_quiet_on
  go_big_quiet_skip
  go_big_quiet_skip
  go_big_quiet_skip
  go_big_quiet_want
  go_big_quiet_op
  first | go_big_quiet_on | (refine ⟨_, fun _ _ => rfl, ?_⟩; go_big_quiet_on)
  go_big_quiet_want
  go_big_quiet_op
  go_big_quiet_on
  go_big_quiet_skip
  go_big_quiet_skip
  go_big_quiet_skip
  go_big_quiet_skip
  go_big_quiet_want
  go_big_quiet_op
  first | go_big_quiet_on | (refine ⟨_, fun _ _ => rfl, ?_⟩; go_big_quiet_on)
  go_big_quiet_want
  go_big_quiet_op
  first | go_big_quiet_on | (refine ⟨_, fun _ _ => rfl, ?_⟩; go_big_quiet_on)
  refine wpQuiet_nil ?_
  intro w5 hS5
  clear hS4
  go_wp2_with fail
  refine wp_region_class (C := Tri w 3 x s r k' x' s' r' k'' x'' s'' r'') (by kernel_rfl) (by kernel_rfl) hS5.drew ?_
  go_big_quiet_want
  refine quiet_run (tri_load0 rfl rfl) ?_
  go_big_quiet_on
  simp only [Act.put, List.setIfInBounds_toArray, List.set_cons_zero, List.set_cons_succ]
  go_big_quiet_want
  go_big_quiet_op
  apply Exists.intro
  refine ⟨fun w' hw' => ?_, ?_⟩
  · refine (c0.out _).mono ?_; rintro e w'' ⟨rfl, b⟩; exact ⟨rfl, hw'.keep b⟩
  go_big_quiet_on
  go_big_quiet_want
  refine quiet_run (tri_load1 rfl rfl) ?_
  go_big_quiet_on
  simp only [Act.put, List.setIfInBounds_toArray, List.set_cons_zero, List.set_cons_succ]
  go_big_quiet_want
  go_big_quiet_op
  apply Exists.intro
  refine ⟨fun w' hw' => ?_, ?_⟩
  · refine (c1.out _).mono ?_; rintro e w'' ⟨rfl, b⟩; exact ⟨rfl, hw'.keep b⟩
  go_big_quiet_on
  go_big_quiet_want
  go_big_quiet_op
  first | go_big_quiet_on | (refine ⟨_, fun _ _ => rfl, ?_⟩; go_big_quiet_on)
  go_big_quiet_want
  go_big_quiet_op
  go_big_quiet_on
  refine wpQuiet_nil ?_
  intro w6 hS6
  clear hS5
  go_wp2_with fail
  refine wp_region_class (C := Tri w 3 x s r k' x' s' r' k'' x'' s'' r'') (by kernel_rfl) (by kernel_rfl) hS6.drew ?_
  go_big_quiet_want
  refine quiet_run (tri_load0 rfl rfl) ?_
  go_big_quiet_on
  simp only [Act.put, List.setIfInBounds_toArray, List.set_cons_zero, List.set_cons_succ]
  go_big_quiet_want
  refine quiet_run (tri_load1 rfl rfl) ?_
  go_big_quiet_on
  simp only [Act.put, List.setIfInBounds_toArray, List.set_cons_zero, List.set_cons_succ]
  go_big_quiet_want
  go_big_quiet_op
  apply Exists.intro
  refine ⟨fun w' hw' => ?_, ?_⟩
  · refine (q01.out _).mono ?_; rintro e w'' ⟨rfl, b⟩; exact ⟨rfl, hw'.keep b⟩
  go_big_quiet_on
  go_big_quiet_want
  go_big_quiet_op
  go_big_quiet_on
  go_big_quiet_skip
  go_big_quiet_want
  go_big_quiet_op
  first | go_big_quiet_on | (refine ⟨_, fun _ _ => rfl, ?_⟩; go_big_quiet_on)
  go_big_quiet_want
  go_big_quiet_op
  go_big_quiet_on
  go_big_quiet_skip
  go_big_quiet_skip
  go_big_quiet_skip
  go_big_quiet_skip
  go_big_quiet_skip
  go_big_quiet_skip
  go_big_quiet_skip
  go_big_quiet_skip
  go_big_quiet_skip
  go_big_quiet_skip
  go_big_quiet_skip
  go_big_quiet_skip
  go_big_quiet_skip
  go_big_quiet_skip
  go_big_quiet_skip
  go_big_quiet_skip
  go_big_quiet_skip
  go_big_quiet_skip
  go_big_quiet_skip
  go_big_quiet_want
  go_big_quiet_op
  first | go_big_quiet_on | (refine ⟨_, fun _ _ => rfl, ?_⟩; go_big_quiet_on)
  refine wpQuiet_nil ?_
  intro w7 hS7
  clear hS6
  have hSc := hS7
  obtain ⟨za0, za1, za2, za3, zb0, zb1, zb2, zb3, zc0, zc1, zc2, zc3, hz, hB⟩ := hSc
  clear hB
  go_wp2_with fail
  clear za0 za1 za2 za3 zb0 zb1 zb2 zb3 zc0 zc1 zc2 zc3 hz
  refine wp_region_class (C := Tri w 3 x s r k' x' s' r' k'' x'' s'' r'') (by kernel_rfl) (by kernel_rfl) hS7.drew ?_
  go_big_quiet_want
  refine quiet_run (tri_load0 rfl rfl) ?_
  go_big_quiet_on
  simp only [Act.put, List.setIfInBounds_toArray, List.set_cons_zero, List.set_cons_succ]
  go_big_quiet_want
  refine quiet_run (tri_load1 rfl rfl) ?_
  go_big_quiet_on
  simp only [Act.put, List.setIfInBounds_toArray, List.set_cons_zero, List.set_cons_succ]
  go_big_quiet_want
  go_big_quiet_op
  apply Exists.intro
  refine ⟨fun w' hw' => ?_, ?_⟩
  · refine (t01.out _).mono ?_; rintro e w'' ⟨rfl, b⟩; exact ⟨rfl, hw'.keep b⟩
  go_big_quiet_on
  go_big_quiet_want
  refine quiet_run (tri_load0 rfl rfl) ?_
  go_big_quiet_on
  simp only [Act.put, List.setIfInBounds_toArray, List.set_cons_zero, List.set_cons_succ]
  go_big_quiet_want
  refine quiet_run (tri_load1 rfl rfl) ?_
  go_big_quiet_on
  simp only [Act.put, List.setIfInBounds_toArray, List.set_cons_zero, List.set_cons_succ]
  go_big_quiet_want
  go_big_quiet_op
  apply Exists.intro
  refine ⟨fun w' hw' => ?_, ?_⟩
  · refine (q01.out _).mono ?_; rintro e w'' ⟨rfl, b⟩; exact ⟨rfl, hw'.keep b⟩
  go_big_quiet_on
  go_big_quiet_want
  go_big_quiet_op
  go_big_quiet_on
  go_big_quiet_skip
  go_big_quiet_skip
  go_big_quiet_want
  go_big_quiet_op
  first | go_big_quiet_on | (refine ⟨_, fun _ _ => rfl, ?_⟩; go_big_quiet_on)
  go_big_quiet_want
  go_big_quiet_op
  first | go_big_quiet_on | (refine ⟨_, fun _ _ => rfl, ?_⟩; go_big_quiet_on)
  refine wpQuiet_nil ?_
  intro w8 hS8
  clear hS7
  have hSc := hS8
  obtain ⟨za0, za1, za2, za3, zb0, zb1, zb2, zb3, zc0, zc1, zc2, zc3, hz, hB⟩ := hSc
  clear hB
  go_wp2_with fail
  refine (p01.out _).mono ?_; rintro e y9 ⟨rfl, b⟩
  have hS9 := hS8.keep b
  clear b za0 za1 za2 za3 zb0 zb1 zb2 zb3 zc0 zc1 zc2 zc3 hz
  clear hS8
  have hSc := hS9
  obtain ⟨za0, za1, za2, za3, zb0, zb1, zb2, zb3, zc0, zc1, zc2, zc3, hz, hB⟩ := hSc
  clear hB
  go_wp2_with fail
  refine (p10.out _).mono ?_; rintro e y10 ⟨rfl, b⟩
  have hS10 := hS9.keep b
  clear b za0 za1 za2 za3 zb0 zb1 zb2 zb3 zc0 zc1 zc2 zc3 hz
  clear hS9
  have hSc := hS10
  obtain ⟨za0, za1, za2, za3, zb0, zb1, zb2, zb3, zc0, zc1, zc2, zc3, hz, hB⟩ := hSc
  clear hB
  go_wp2_with fail
  refine (j0.out _).mono ?_; rintro e y11 ⟨rfl, b⟩
  have hS11 := hS10.keep b
  clear b za0 za1 za2 za3 zb0 zb1 zb2 zb3 zc0 zc1 zc2 zc3 hz
  clear hS10
  have hSc := hS11
  obtain ⟨za0, za1, za2, za3, zb0, zb1, zb2, zb3, zc0, zc1, zc2, zc3, hz, hB⟩ := hSc
  clear hB
  go_wp2_with fail
  refine (j1.out _).mono ?_; rintro e y12 ⟨rfl, b⟩
  have hS12 := hS11.keep b
  clear b za0 za1 za2 za3 zb0 zb1 zb2 zb3 zc0 zc1 zc2 zc3 hz
  clear hS11
  have hSc := hS12
  obtain ⟨za0, za1, za2, za3, zb0, zb1, zb2, zb3, zc0, zc1, zc2, zc3, hz, hB⟩ := hSc
  clear hB
  go_wp2
  go_ret
  exact ⟨by simp, hS12.out⟩

set_option maxHeartbeats 8000000 in
set_option maxRecDepth 100000 in
theorem sam_ttt_nn (k : Int) (x : Nat) (s : ByteArray) (r : Int) (k' : Int) (x' : Nat) (s' : ByteArray) (r' : Int) (k'' : Int) (x'' : Nat) (s'' : ByteArray) (r'' : Int) (w : World) (hk : 0 ≤ k) (hk' : 0 ≤ k') (hk'' : 0 ≤ k'') (hx : x < 18446744073709551616) (hy : x' < 18446744073709551616) (hu : x'' < 18446744073709551616)
    (ma : mayV k x s r = true) (mb : mayV k' x' s' r' = true) (mc : mayV k'' x'' s'' r'' = true) (h0 : -9223372036854775808 ≤ r) (h1 : r ≤ 9223372036854775807) (h0' : -9223372036854775808 ≤ r') (h1' : r' ≤ 9223372036854775807) (htab : Lib.TabIs Tryd.prog w "internal/strconv.uint64pow10" .u64 Lib.pow10Tab) (hA : sameV k x s r k' x' s' r' = true) (hB : sameV k' x' s' r' k'' x'' s'' r'' = true) (hD : (callsV k == callsV k') = true) (h3 : k = 3) (hN : Fl.isN x = true) (ho : isObj k = false) (ho' : isObj k' = false) :
    Calls Tryd.prog 12 #[val k x s r, val k' x' s' r', val k'' x'' s'' r''] w fun e w' => e = .returned (.bool true) ∧ Below w.heap.size w w' := by
  have qv := Lib.hid (fun w' => lawAlive w')
  have m0 := Lib.hid (fun w' => vMay_any k x s r w' hk hx)
  have m1 := Lib.hid (fun w' => vMay_any k' x' s' r' w' hk' hy)
  have m2 := Lib.hid (fun w' => vMay_any k'' x'' s'' r'' w' hk'' hu)
  rw [ma] at m0
  rw [mb] at m1
  rw [mc] at m2
  have ht := Lib.hid htab
  have q00 := Lib.hid (fun w' => vSame_any k x s r k x s r w' hx hx)
  rw [same_refl hk ma] at q00
  have q01 := Lib.hid (fun w' => vSame_any k x s r k' x' s' r' w' hx hy)
  rw [hA] at q01
  have q10 := Lib.hid (fun w' => vSame_any k' x' s' r' k x s r w' hy hx)
  rw [same_comm, hA] at q10
  have c0 := Lib.hid (fun w' => calls_any k x s r w')
  have c1 := Lib.hid (fun w' => calls_any k' x' s' r' w')
  have t01 := Lib.hid (fun w' => vStrict_any k x s r k' x' s' r' w' hx hy)
  have p01 := Lib.hid (fun w' => vPlain_any k x s r k' x' s' r' w' hk hk' hx hy)
  have p10 := Lib.hid (fun w' => vPlain_any k' x' s' r' k x s r w' hk' hk hy hx)
  have j0 := Lib.hid (fun w' => vObj_any k x s r w')
  have j1 := Lib.hid (fun w' => vObj_any k' x' s' r' w')
  have e1 := Fl.ord_neq hx hx
  rw [Fl.feq_self, hN] at e1
  have hst : strictV k x s r k' x' s' r' = false := by rw [strict_same, hA, hN]; simp [h3]
  rw [hst] at t01
  rw [plainG_comm] at p10
  generalize plainG k x s r k' x' s' r' = p at *
  have hp1 : (p.1 == p.1) = true := by simp
  have hp2 : (p.2 == p.2) = true := by simp
  rw [ho] at j0
  rw [ho'] at j1
  have q12 := Lib.hid (fun w' => vSame_any k' x' s' r' k'' x'' s'' r'' w' hy hu)
  rw [hB] at q12
  have q02 := Lib.hid (fun w' => vSame_any k x s r k'' x'' s'' r'' w' hx hu)
  rw [same_trans hA hB] at q02
  obtain ⟨g1, g2, g3⟩ := same_shown ma mb hA (by simpa using hD)
  have y0 := Lib.hid (fun w' => type_any k x s r w' hk)
  have y1 := Lib.hid (fun w' => type_any k' x' s' r' w' hk')
  rw [← g1] at y1
  have u0 := Lib.hid (fun w' => truth_any k x s r w' hk hx)
  have u1 := Lib.hid (fun w' => truth_any k' x' s' r' w' hk' hy)
  rw [← g2] at u1
  have v0 := Lib.hid (fun w' => vText_any k x s r w' hk hx (by have := may_size ma; omega) h0 h1)
  have v1 := Lib.hid (fun w' => vText_any k' x' s' r' w' hk' hy (by have := may_size mb; omega) h0' h1')
  rw [← g3] at v1
  generalize typeV k = T at *
  generalize truthV k x s = U at *
  generalize textV k x s r = V at *
  have hU : (U != U) = false := by simp
  clear g1 g2 g3
  generalize callsV k = d at *
  generalize callsV k' = d' at *
  obtain rfl : d = d' := by simpa using hD
  have hdd : (d == d) = true := by simp
  clear hx hy hu hk hk' hk'' ma mb mc h0 h1 h0' h1' htab hA ho hst hB ho' hN hD
  subst h3
  unfold val at *
  go_enter Tryd.func12, Tryd.ntmps12
  go_wp2_with fail
  refine (qv.out _).mono ?_; rintro e w1 ⟨rfl, b1⟩
  obtain ⟨hc, hf⟩ := bcell b1
  have B1 := Lib.hid b1
  clear b1
  go_wp2_with fail
  refine (m0.out _).mono ?_; rintro e w2 ⟨rfl, b2⟩
  have B2 := Lib.hid (B1.out.trans (b2.mono B1.out.size))
  clear b2 hc hf
  obtain ⟨hc, hf⟩ := bcell B2.out
  go_wp2_with fail
  refine (m1.out _).mono ?_; rintro e w3 ⟨rfl, b3⟩
  have B3 := Lib.hid (B2.out.trans (b3.mono B2.out.size))
  clear b3 hc hf
  obtain ⟨hc, hf⟩ := bcell B3.out
  go_wp2_with fail
  refine (m2.out _).mono ?_; rintro e w4 ⟨rfl, b4⟩
  have B4 := Lib.hid (B3.out.trans (b4.mono B3.out.size))
  clear b4 hc hf
  obtain ⟨hc, hf⟩ := bcell B4.out
  go_wp2_with fail
  have hz : w.heap.size + 1 + 1 < w4.heap.size := by have := B4.out.size; simp at this; omega
  have z00 : w4.cell? ⟨w.heap.size, 0, none⟩ = some (.int .u8 3) := (hc (w.heap.size) 0 (by simp <;> omega)).trans (third_cell _ _ _ _ _ 0)
  have z01 : w4.cell? ⟨w.heap.size, 1, none⟩ = some (.float .f64 x) := (hc (w.heap.size) 1 (by simp <;> omega)).trans (third_cell _ _ _ _ _ 1)
  have z02 : w4.cell? ⟨w.heap.size, 2, none⟩ = some (.string s) := (hc (w.heap.size) 2 (by simp <;> omega)).trans (third_cell _ _ _ _ _ 2)
  have z03 : w4.cell? ⟨w.heap.size, 3, none⟩ = some (.int .i64 r) := (hc (w.heap.size) 3 (by simp <;> omega)).trans (third_cell _ _ _ _ _ 3)
  have z10 : w4.cell? ⟨w.heap.size + 1, 0, none⟩ = some (.int .u8 k') := (hc (w.heap.size + 1) 0 (by simp <;> omega)).trans (mid_cell _ _ _ _ _ 0)
  have z11 : w4.cell? ⟨w.heap.size + 1, 1, none⟩ = some (.float .f64 x') := (hc (w.heap.size + 1) 1 (by simp <;> omega)).trans (mid_cell _ _ _ _ _ 1)
  have z12 : w4.cell? ⟨w.heap.size + 1, 2, none⟩ = some (.string s') := (hc (w.heap.size + 1) 2 (by simp <;> omega)).trans (mid_cell _ _ _ _ _ 2)
  have z13 : w4.cell? ⟨w.heap.size + 1, 3, none⟩ = some (.int .i64 r') := (hc (w.heap.size + 1) 3 (by simp <;> omega)).trans (mid_cell _ _ _ _ _ 3)
  have z20 : w4.cell? ⟨w.heap.size + 1 + 1, 0, none⟩ = some (.int .u8 k'') := (hc (w.heap.size + 1 + 1) 0 (by simp <;> omega)).trans (last_cell _ _ _ _ _ 0)
  have z21 : w4.cell? ⟨w.heap.size + 1 + 1, 1, none⟩ = some (.float .f64 x'') := (hc (w.heap.size + 1 + 1) 1 (by simp <;> omega)).trans (last_cell _ _ _ _ _ 1)
  have z22 : w4.cell? ⟨w.heap.size + 1 + 1, 2, none⟩ = some (.string s'') := (hc (w.heap.size + 1 + 1) 2 (by simp <;> omega)).trans (last_cell _ _ _ _ _ 2)
  have z23 : w4.cell? ⟨w.heap.size + 1 + 1, 3, none⟩ = some (.int .i64 r'') := (hc (w.heap.size + 1 + 1) 3 (by simp <;> omega)).trans (last_cell _ _ _ _ _ 3)
  have hS4 : Tri w 3 x s r k' x' s' r' k'' x'' s'' r'' w4 := ⟨z00, z01, z02, z03, z10, z11, z12, z13, z20, z21, z22, z23, hz, below_four B4.out⟩
  clear z00 z01 z02 z03 z10 z11 z12 z13 z20 z21 z22 z23 hc hf hz B1 B2 B3 B4
  refine wp_region_class (C := Tri w 3 x s r k' x' s' r' k'' x'' s'' r'') (by kernel_rfl) (by kernel_rfl) hS4.drew ?_
  go_big_quiet_want
  refine quiet_run (tri_load0 rfl rfl) ?_
  go_big_quiet_on
  simp only [Act.put, List.setIfInBounds_toArray, List.set_cons_zero, List.set_cons_succ]
  go_big_quiet_want
  refine quiet_run (tri_load0 rfl rfl) ?_
  go_big_quiet_on
  simp only [Act.put, List.setIfInBounds_toArray, List.set_cons_zero, List.set_cons_succ]
  go_big_quiet_want
  go_big_quiet_op
  apply Exists.intro
  refine ⟨fun w' hw' => ?_, ?_⟩
  · refine (q00.out _).mono ?_; rintro e w'' ⟨rfl, b⟩; exact ⟨rfl, hw'.keep b⟩
  go_big_quiet_on
  go_big_quiet_want
  go_big_quiet_op
  first | go_big_quiet_on | (refine ⟨_, fun _ _ => rfl, ?_⟩; go_big_quiet_on)
  go_big_quiet_want
  go_big_quiet_op
  go_big_quiet_on
  go_big_quiet_want
  refine quiet_run (tri_load0 rfl rfl) ?_
  go_big_quiet_on
  simp only [Act.put, List.setIfInBounds_toArray, List.set_cons_zero, List.set_cons_succ]
  go_big_quiet_want
  refine quiet_run (tri_load1 rfl rfl) ?_
  go_big_quiet_on
  simp only [Act.put, List.setIfInBounds_toArray, List.set_cons_zero, List.set_cons_succ]
  go_big_quiet_want
  go_big_quiet_op
  apply Exists.intro
  refine ⟨fun w' hw' => ?_, ?_⟩
  · refine (q01.out _).mono ?_; rintro e w'' ⟨rfl, b⟩; exact ⟨rfl, hw'.keep b⟩
  go_big_quiet_on
  go_big_quiet_want
  refine quiet_run (tri_load1 rfl rfl) ?_
  go_big_quiet_on
  simp only [Act.put, List.setIfInBounds_toArray, List.set_cons_zero, List.set_cons_succ]
  go_big_quiet_want
  refine quiet_run (tri_load0 rfl rfl) ?_
  go_big_quiet_on
  simp only [Act.put, List.setIfInBounds_toArray, List.set_cons_zero, List.set_cons_succ]
  go_big_quiet_want
  go_big_quiet_op
  apply Exists.intro
  refine ⟨fun w' hw' => ?_, ?_⟩
  · refine (q10.out _).mono ?_; rintro e w'' ⟨rfl, b⟩; exact ⟨rfl, hw'.keep b⟩
  go_big_quiet_on
  go_big_quiet_want
  go_big_quiet_op
  first | go_big_quiet_on | (refine ⟨_, fun _ _ => rfl, ?_⟩; go_big_quiet_on)
  go_big_quiet_want
  go_big_quiet_op
  first | go_big_quiet_on | (refine ⟨_, fun _ _ => rfl, ?_⟩; go_big_quiet_on)
  go_big_quiet_want
  go_big_quiet_op
  go_big_quiet_on
  go_big_quiet_want
  refine quiet_run (tri_load0 rfl rfl) ?_
  go_big_quiet_on
  simp only [Act.put, List.setIfInBounds_toArray, List.set_cons_zero, List.set_cons_succ]
  go_big_quiet_want
  refine quiet_run (tri_load1 rfl rfl) ?_
  go_big_quiet_on
  simp only [Act.put, List.setIfInBounds_toArray, List.set_cons_zero, List.set_cons_succ]
  go_big_quiet_want
  go_big_quiet_op
  apply Exists.intro
  refine ⟨fun w' hw' => ?_, ?_⟩
  · refine (q01.out _).mono ?_; rintro e w'' ⟨rfl, b⟩; exact ⟨rfl, hw'.keep b⟩
  go_big_quiet_on
  go_big_quiet_want
  go_big_quiet_op
  go_big_quiet_on
  go_big_quiet_want
  refine quiet_run (tri_load1 rfl rfl) ?_
  go_big_quiet_on
  simp only [Act.put, List.setIfInBounds_toArray, List.set_cons_zero, List.set_cons_succ]
  go_big_quiet_want
  refine quiet_run (tri_load2 rfl rfl) ?_
  go_big_quiet_on
  simp only [Act.put, List.setIfInBounds_toArray, List.set_cons_zero, List.set_cons_succ]
  go_big_quiet_want
  go_big_quiet_op
  apply Exists.intro
  refine ⟨fun w' hw' => ?_, ?_⟩
  · refine (q12.out _).mono ?_; rintro e w'' ⟨rfl, b⟩; exact ⟨rfl, hw'.keep b⟩
  go_big_quiet_on
  go_big_quiet_want
  go_big_quiet_op
  first | go_big_quiet_on | (refine ⟨_, fun _ _ => rfl, ?_⟩; go_big_quiet_on)
  go_big_quiet_want
  go_big_quiet_op
  go_big_quiet_on
  go_big_quiet_want
  refine quiet_run (tri_load0 rfl rfl) ?_
  go_big_quiet_on
  simp only [Act.put, List.setIfInBounds_toArray, List.set_cons_zero, List.set_cons_succ]
  go_big_quiet_want
  refine quiet_run (tri_load2 rfl rfl) ?_
  go_big_quiet_on
  simp only [Act.put, List.setIfInBounds_toArray, List.set_cons_zero, List.set_cons_succ]
  go_big_quiet_want
  go_big_quiet_op
  apply Exists.intro
  refine ⟨fun w' hw' => ?_, ?_⟩
  · refine (q02.out _).mono ?_; rintro e w'' ⟨rfl, b⟩; exact ⟨rfl, hw'.keep b⟩
  go_big_quiet_on
  go_big_quiet_want
  go_big_quiet_op
  first | go_big_quiet_on | (refine ⟨_, fun _ _ => rfl, ?_⟩; go_big_quiet_on)
  go_big_quiet_want
  go_big_quiet_op
  first | go_big_quiet_on | (refine ⟨_, fun _ _ => rfl, ?_⟩; go_big_quiet_on)
  go_big_quiet_want
  go_big_quiet_op
  first | go_big_quiet_on | (refine ⟨_, fun _ _ => rfl, ?_⟩; go_big_quiet_on)
  refine wpQuiet_nil ?_
  intro w5 hS5
  clear hS4
  go_wp2_with fail
  refine wp_region_class (C := Tri w 3 x s r k' x' s' r' k'' x'' s'' r'') (by kernel_rfl) (by kernel_rfl) hS5.drew ?_
  go_big_quiet_want
  refine quiet_run (tri_load0 rfl rfl) ?_
  go_big_quiet_on
  simp only [Act.put, List.setIfInBounds_toArray, List.set_cons_zero, List.set_cons_succ]
  go_big_quiet_want
  go_big_quiet_op
  apply Exists.intro
  refine ⟨fun w' hw' => ?_, ?_⟩
  · refine (c0.out _).mono ?_; rintro e w'' ⟨rfl, b⟩; exact ⟨rfl, hw'.keep b⟩
  go_big_quiet_on
  go_big_quiet_want
  refine quiet_run (tri_load1 rfl rfl) ?_
  go_big_quiet_on
  simp only [Act.put, List.setIfInBounds_toArray, List.set_cons_zero, List.set_cons_succ]
  go_big_quiet_want
  go_big_quiet_op
  apply Exists.intro
  refine ⟨fun w' hw' => ?_, ?_⟩
  · refine (c1.out _).mono ?_; rintro e w'' ⟨rfl, b⟩; exact ⟨rfl, hw'.keep b⟩
  go_big_quiet_on
  go_big_quiet_want
  go_big_quiet_op
  first | go_big_quiet_on | (refine ⟨_, fun _ _ => rfl, ?_⟩; go_big_quiet_on)
  go_big_quiet_want
  go_big_quiet_op
  go_big_quiet_on
  refine wpQuiet_nil ?_
  intro w6 hS6
  clear hS5
  go_wp2_with fail
  refine wp_region_class (C := Tri w 3 x s r k' x' s' r' k'' x'' s'' r'') (by kernel_rfl) (by kernel_rfl) hS6.drew ?_
  go_big_quiet_want
  refine quiet_run (tri_load0 rfl rfl) ?_
  go_big_quiet_on
  simp only [Act.put, List.setIfInBounds_toArray, List.set_cons_zero, List.set_cons_succ]
  go_big_quiet_want
  refine quiet_run (tri_load1 rfl rfl) ?_
  go_big_quiet_on
  simp only [Act.put, List.setIfInBounds_toArray, List.set_cons_zero, List.set_cons_succ]
  go_big_quiet_want
  go_big_quiet_op
  apply Exists.intro
  refine ⟨fun w' hw' => ?_, ?_⟩
  · refine (q01.out _).mono ?_; rintro e w'' ⟨rfl, b⟩; exact ⟨rfl, hw'.keep b⟩
  go_big_quiet_on
  go_big_quiet_want
  go_big_quiet_op
  go_big_quiet_on
  go_big_quiet_want
  go_big_quiet_op
  go_big_quiet_on
  go_big_quiet_want
  go_big_quiet_op
  first | go_big_quiet_on | (refine ⟨_, fun _ _ => rfl, ?_⟩; go_big_quiet_on)
  go_big_quiet_want
  go_big_quiet_op
  go_big_quiet_on
  go_big_quiet_want
  refine quiet_run (tri_load0 rfl rfl) ?_
  go_big_quiet_on
  simp only [Act.put, List.setIfInBounds_toArray, List.set_cons_zero, List.set_cons_succ]
  go_big_quiet_want
  go_big_quiet_op
  apply Exists.intro
  refine ⟨fun w' hw' => ?_, ?_⟩
  · refine (y0.out _).mono ?_; rintro e w'' ⟨rfl, b⟩; exact ⟨rfl, hw'.keep b⟩
  go_big_quiet_on
  go_big_quiet_want
  refine quiet_run (tri_load1 rfl rfl) ?_
  go_big_quiet_on
  simp only [Act.put, List.setIfInBounds_toArray, List.set_cons_zero, List.set_cons_succ]
  go_big_quiet_want
  go_big_quiet_op
  apply Exists.intro
  refine ⟨fun w' hw' => ?_, ?_⟩
  · refine (y1.out _).mono ?_; rintro e w'' ⟨rfl, b⟩; exact ⟨rfl, hw'.keep b⟩
  go_big_quiet_on
  go_big_quiet_want
  go_big_quiet_op
  first | go_big_quiet_on | (refine ⟨_, fun _ _ => rfl, ?_⟩; go_big_quiet_on)
  go_big_quiet_want
  go_big_quiet_op
  go_big_quiet_on
  go_big_quiet_want
  refine quiet_run (tri_load0 rfl rfl) ?_
  go_big_quiet_on
  simp only [Act.put, List.setIfInBounds_toArray, List.set_cons_zero, List.set_cons_succ]
  go_big_quiet_want
  go_big_quiet_op
  apply Exists.intro
  refine ⟨fun w' hw' => ?_, ?_⟩
  · refine (u0.out _).mono ?_; rintro e w'' ⟨rfl, b⟩; exact ⟨rfl, hw'.keep b⟩
  go_big_quiet_on
  go_big_quiet_want
  refine quiet_run (tri_load1 rfl rfl) ?_
  go_big_quiet_on
  simp only [Act.put, List.setIfInBounds_toArray, List.set_cons_zero, List.set_cons_succ]
  go_big_quiet_want
  go_big_quiet_op
  apply Exists.intro
  refine ⟨fun w' hw' => ?_, ?_⟩
  · refine (u1.out _).mono ?_; rintro e w'' ⟨rfl, b⟩; exact ⟨rfl, hw'.keep b⟩
  go_big_quiet_on
  go_big_quiet_want
  go_big_quiet_op
  first | go_big_quiet_on | (refine ⟨_, fun _ _ => rfl, ?_⟩; go_big_quiet_on)
  go_big_quiet_want
  go_big_quiet_op
  first | go_big_quiet_on | (refine ⟨_, fun _ _ => rfl, ?_⟩; go_big_quiet_on)
  go_big_quiet_want
  go_big_quiet_op
  go_big_quiet_on
  go_big_quiet_want
  refine quiet_run (tri_load0 rfl rfl) ?_
  go_big_quiet_on
  simp only [Act.put, List.setIfInBounds_toArray, List.set_cons_zero, List.set_cons_succ]
  go_big_quiet_want
  go_big_quiet_op
  apply Exists.intro
  refine ⟨fun w' hw' => ?_, ?_⟩
  · refine (v0.out _ (tab_below ht.out hw'.out (tab_size ht.out))).mono ?_; rintro e w'' ⟨rfl, b⟩; exact ⟨rfl, hw'.keep b⟩
  go_big_quiet_on
  go_big_quiet_want
  refine quiet_run (tri_load1 rfl rfl) ?_
  go_big_quiet_on
  simp only [Act.put, List.setIfInBounds_toArray, List.set_cons_zero, List.set_cons_succ]
  go_big_quiet_want
  go_big_quiet_op
  apply Exists.intro
  refine ⟨fun w' hw' => ?_, ?_⟩
  · refine (v1.out _ (tab_below ht.out hw'.out (tab_size ht.out))).mono ?_; rintro e w'' ⟨rfl, b⟩; exact ⟨rfl, hw'.keep b⟩
  go_big_quiet_on
  go_big_quiet_want
  go_big_quiet_op
  first | go_big_quiet_on | (refine ⟨_, fun _ _ => rfl, ?_⟩; go_big_quiet_on)
  go_big_quiet_want
  go_big_quiet_op
  first | go_big_quiet_on | (refine ⟨_, fun _ _ => rfl, ?_⟩; go_big_quiet_on)
  go_big_quiet_want
  go_big_quiet_op
  first | go_big_quiet_on | (refine ⟨_, fun _ _ => rfl, ?_⟩; go_big_quiet_on)
  refine wpQuiet_nil ?_
  intro w7 hS7
  clear hS6
  have hSc := hS7
  obtain ⟨za0, za1, za2, za3, zb0, zb1, zb2, zb3, zc0, zc1, zc2, zc3, hz, hB⟩ := hSc
  clear hB
  go_wp2_with fail
  clear za0 za1 za2 za3 zb0 zb1 zb2 zb3 zc0 zc1 zc2 zc3 hz
  refine wp_region_class (C := Tri w 3 x s r k' x' s' r' k'' x'' s'' r'') (by kernel_rfl) (by kernel_rfl) hS7.drew ?_
  go_big_quiet_want
  refine quiet_run (tri_load0 rfl rfl) ?_
  go_big_quiet_on
  simp only [Act.put, List.setIfInBounds_toArray, List.set_cons_zero, List.set_cons_succ]
  go_big_quiet_want
  refine quiet_run (tri_load1 rfl rfl) ?_
  go_big_quiet_on
  simp only [Act.put, List.setIfInBounds_toArray, List.set_cons_zero, List.set_cons_succ]
  go_big_quiet_want
  go_big_quiet_op
  apply Exists.intro
  refine ⟨fun w' hw' => ?_, ?_⟩
  · refine (t01.out _).mono ?_; rintro e w'' ⟨rfl, b⟩; exact ⟨rfl, hw'.keep b⟩
  go_big_quiet_on
  go_big_quiet_want
  refine quiet_run (tri_load0 rfl rfl) ?_
  go_big_quiet_on
  simp only [Act.put, List.setIfInBounds_toArray, List.set_cons_zero, List.set_cons_succ]
  go_big_quiet_want
  refine quiet_run (tri_load1 rfl rfl) ?_
  go_big_quiet_on
  simp only [Act.put, List.setIfInBounds_toArray, List.set_cons_zero, List.set_cons_succ]
  go_big_quiet_want
  go_big_quiet_op
  apply Exists.intro
  refine ⟨fun w' hw' => ?_, ?_⟩
  · refine (q01.out _).mono ?_; rintro e w'' ⟨rfl, b⟩; exact ⟨rfl, hw'.keep b⟩
  go_big_quiet_on
  go_big_quiet_want
  go_big_quiet_op
  go_big_quiet_on
  go_big_quiet_want
  go_big_quiet_op
  go_big_quiet_on
  go_big_quiet_want
  go_big_quiet_op
  first | go_big_quiet_on | (refine ⟨_, fun _ _ => rfl, ?_⟩; go_big_quiet_on)
  go_big_quiet_want
  go_big_quiet_op
  first | go_big_quiet_on | (refine ⟨_, fun _ _ => rfl, ?_⟩; go_big_quiet_on)
  go_big_quiet_want
  go_big_quiet_op
  first | go_big_quiet_on | (refine ⟨_, fun _ _ => rfl, ?_⟩; go_big_quiet_on)
  refine wpQuiet_nil ?_
  intro w8 hS8
  clear hS7
  have hSc := hS8
  obtain ⟨za0, za1, za2, za3, zb0, zb1, zb2, zb3, zc0, zc1, zc2, zc3, hz, hB⟩ := hSc
  clear hB
  go_wp2_with fail
  refine (p01.out _).mono ?_; rintro e y9 ⟨rfl, b⟩
  have hS9 := hS8.keep b
  clear b za0 za1 za2 za3 zb0 zb1 zb2 zb3 zc0 zc1 zc2 zc3 hz
  clear hS8
  have hSc := hS9
  obtain ⟨za0, za1, za2, za3, zb0, zb1, zb2, zb3, zc0, zc1, zc2, zc3, hz, hB⟩ := hSc
  clear hB
  go_wp2_with fail
  refine (p10.out _).mono ?_; rintro e y10 ⟨rfl, b⟩
  have hS10 := hS9.keep b
  clear b za0 za1 za2 za3 zb0 zb1 zb2 zb3 zc0 zc1 zc2 zc3 hz
  clear hS9
  have hSc := hS10
  obtain ⟨za0, za1, za2, za3, zb0, zb1, zb2, zb3, zc0, zc1, zc2, zc3, hz, hB⟩ := hSc
  clear hB
  go_wp2_with fail
  refine (j0.out _).mono ?_; rintro e y11 ⟨rfl, b⟩
  have hS11 := hS10.keep b
  clear b za0 za1 za2 za3 zb0 zb1 zb2 zb3 zc0 zc1 zc2 zc3 hz
  clear hS10
  have hSc := hS11
  obtain ⟨za0, za1, za2, za3, zb0, zb1, zb2, zb3, zc0, zc1, zc2, zc3, hz, hB⟩ := hSc
  clear hB
  go_wp2_with fail
  refine (j1.out _).mono ?_; rintro e y12 ⟨rfl, b⟩
  have hS12 := hS11.keep b
  clear b za0 za1 za2 za3 zb0 zb1 zb2 zb3 zc0 zc1 zc2 zc3 hz
  clear hS11
  have hSc := hS12
  obtain ⟨za0, za1, za2, za3, zb0, zb1, zb2, zb3, zc0, zc1, zc2, zc3, hz, hB⟩ := hSc
  clear hB
  go_wp2_with fail
  refine (t01.out _).mono ?_; rintro e y13 ⟨rfl, b⟩
  have hS13 := hS12.keep b
  clear b za0 za1 za2 za3 zb0 zb1 zb2 zb3 zc0 zc1 zc2 zc3 hz
  clear hS12
  have hSc := hS13
  obtain ⟨za0, za1, za2, za3, zb0, zb1, zb2, zb3, zc0, zc1, zc2, zc3, hz, hB⟩ := hSc
  clear hB
  go_wp2
  go_ret
  exact ⟨by simp, hS13.out⟩

set_option maxHeartbeats 8000000 in
set_option maxRecDepth 100000 in
theorem sam_tft_mn (k : Int) (x : Nat) (s : ByteArray) (r : Int) (k' : Int) (x' : Nat) (s' : ByteArray) (r' : Int) (k'' : Int) (x'' : Nat) (s'' : ByteArray) (r'' : Int) (w : World) (hk : 0 ≤ k) (hk' : 0 ≤ k') (hk'' : 0 ≤ k'') (hx : x < 18446744073709551616) (hy : x' < 18446744073709551616) (hu : x'' < 18446744073709551616)
    (ma : mayV k x s r = true) (mb : mayV k' x' s' r' = true) (mc : mayV k'' x'' s'' r'' = true) (h0 : -9223372036854775808 ≤ r) (h1 : r ≤ 9223372036854775807) (h0' : -9223372036854775808 ≤ r') (h1' : r' ≤ 9223372036854775807) (htab : Lib.TabIs Tryd.prog w "internal/strconv.uint64pow10" .u64 Lib.pow10Tab) (hA : sameV k x s r k' x' s' r' = true) (hB : sameV k' x' s' r' k'' x'' s'' r'' = false) (hD : (callsV k == callsV k') = true) (h3 : k = 3) (hN : Fl.isN x = false) (ho : isObj k = false) (ho' : isObj k' = false) :
    Calls Tryd.prog 12 #[val k x s r, val k' x' s' r', val k'' x'' s'' r''] w fun e w' => e = .returned (.bool true) ∧ Below w.heap.size w w' := by
  have qv := Lib.hid (fun w' => lawAlive w')
  have m0 := Lib.hid (fun w' => vMay_any k x s r w' hk hx)
  have m1 := Lib.hid (fun w' => vMay_any k' x' s' r' w' hk' hy)
  have m2 := Lib.hid (fun w' => vMay_any k'' x'' s'' r'' w' hk'' hu)
  rw [ma] at m0
  rw [mb] at m1
  rw [mc] at m2
  have ht := Lib.hid htab
  have q00 := Lib.hid (fun w' => vSame_any k x s r k x s r w' hx hx)
  rw [same_refl hk ma] at q00
  have q01 := Lib.hid (fun w' => vSame_any k x s r k' x' s' r' w' hx hy)
  rw [hA] at q01
  have q10 := Lib.hid (fun w' => vSame_any k' x' s' r' k x s r w' hy hx)
  rw [same_comm, hA] at q10
  have c0 := Lib.hid (fun w' => calls_any k x s r w')
  have c1 := Lib.hid (fun w' => calls_any k' x' s' r' w')
  have t01 := Lib.hid (fun w' => vStrict_any k x s r k' x' s' r' w' hx hy)
  have p01 := Lib.hid (fun w' => vPlain_any k x s r k' x' s' r' w' hk hk' hx hy)
  have p10 := Lib.hid (fun w' => vPlain_any k' x' s' r' k x s r w' hk' hk hy hx)
  have j0 := Lib.hid (fun w' => vObj_any k x s r w')
  have j1 := Lib.hid (fun w' => vObj_any k' x' s' r' w')
  have e1 := Fl.ord_neq hx hx
  rw [Fl.feq_self, hN] at e1
  have hst : strictV k x s r k' x' s' r' = true := by rw [strict_same, hA, hN]; simp
  rw [hst] at t01
  rw [plainG_comm] at p10
  rw [plainG_strict ma mb ho ho' hst] at p01 p10
  rw [ho] at j0
  rw [ho'] at j1
  have q12 := Lib.hid (fun w' => vSame_any k' x' s' r' k'' x'' s'' r'' w' hy hu)
  rw [hB] at q12
  obtain ⟨g1, g2, g3⟩ := same_shown ma mb hA (by simpa using hD)
  have y0 := Lib.hid (fun w' => type_any k x s r w' hk)
  have y1 := Lib.hid (fun w' => type_any k' x' s' r' w' hk')
  rw [← g1] at y1
  have u0 := Lib.hid (fun w' => truth_any k x s r w' hk hx)
  have u1 := Lib.hid (fun w' => truth_any k' x' s' r' w' hk' hy)
  rw [← g2] at u1
  have v0 := Lib.hid (fun w' => vText_any k x s r w' hk hx (by have := may_size ma; omega) h0 h1)
  have v1 := Lib.hid (fun w' => vText_any k' x' s' r' w' hk' hy (by have := may_size mb; omega) h0' h1')
  rw [← g3] at v1
  generalize typeV k = T at *
  generalize truthV k x s = U at *
  generalize textV k x s r = V at *
  have hU : (U != U) = false := by simp
  clear g1 g2 g3
  generalize callsV k = d at *
  generalize callsV k' = d' at *
  obtain rfl : d = d' := by simpa using hD
  have hdd : (d == d) = true := by simp
  clear hx hy hu hk hk' hk'' ma mb mc h0 h1 h0' h1' htab hA ho hst hB ho' hN hD
  subst h3
  unfold val at *
  go_enter Tryd.func12, Tryd.ntmps12
  go_wp2_with fail
  refine (qv.out _).mono ?_; rintro e w1 ⟨rfl, b1⟩
  obtain ⟨hc, hf⟩ := bcell b1
  have B1 := Lib.hid b1
  clear b1
  go_wp2_with fail
  refine (m0.out _).mono ?_; rintro e w2 ⟨rfl, b2⟩
  have B2 := Lib.hid (B1.out.trans (b2.mono B1.out.size))
  clear b2 hc hf
  obtain ⟨hc, hf⟩ := bcell B2.out
  go_wp2_with fail
  refine (m1.out _).mono ?_; rintro e w3 ⟨rfl, b3⟩
  have B3 := Lib.hid (B2.out.trans (b3.mono B2.out.size))
  clear b3 hc hf
  obtain ⟨hc, hf⟩ := bcell B3.out
  go_wp2_with fail
  refine (m2.out _).mono ?_; rintro e w4 ⟨rfl, b4⟩
  have B4 := Lib.hid (B3.out.trans (b4.mono B3.out.size))
  clear b4 hc hf
  obtain ⟨hc, hf⟩ := bcell B4.out
  go_wp2_with fail
  have hz : w.heap.size + 1 + 1 < w4.heap.size := by have := B4.out.size; simp at this; omega
  have z00 : w4.cell? ⟨w.heap.size, 0, none⟩ = some (.int .u8 3) := (hc (w.heap.size) 0 (by simp <;> omega)).trans (third_cell _ _ _ _ _ 0)
  have z01 : w4.cell? ⟨w.heap.size, 1, none⟩ = some (.float .f64 x) := (hc (w.heap.size) 1 (by simp <;> omega)).trans (third_cell _ _ _ _ _ 1)
  have z02 : w4.cell? ⟨w.heap.size, 2, none⟩ = some (.string s) := (hc (w.heap.size) 2 (by simp <;> omega)).trans (third_cell _ _ _ _ _ 2)
  have z03 : w4.cell? ⟨w.heap.size, 3, none⟩ = some (.int .i64 r) := (hc (w.heap.size) 3 (by simp <;> omega)).trans (third_cell _ _ _ _ _ 3)
  have z10 : w4.cell? ⟨w.heap.size + 1, 0, none⟩ = some (.int .u8 k') := (hc (w.heap.size + 1) 0 (by simp <;> omega)).trans (mid_cell _ _ _ _ _ 0)
  have z11 : w4.cell? ⟨w.heap.size + 1, 1, none⟩ = some (.float .f64 x') := (hc (w.heap.size + 1) 1 (by simp <;> omega)).trans (mid_cell _ _ _ _ _ 1)
  have z12 : w4.cell? ⟨w.heap.size + 1, 2, none⟩ = some (.string s') := (hc (w.heap.size + 1) 2 (by simp <;> omega)).trans (mid_cell _ _ _ _ _ 2)
  have z13 : w4.cell? ⟨w.heap.size + 1, 3, none⟩ = some (.int .i64 r') := (hc (w.heap.size + 1) 3 (by simp <;> omega)).trans (mid_cell _ _ _ _ _ 3)
  have z20 : w4.cell? ⟨w.heap.size + 1 + 1, 0, none⟩ = some (.int .u8 k'') := (hc (w.heap.size + 1 + 1) 0 (by simp <;> omega)).trans (last_cell _ _ _ _ _ 0)
  have z21 : w4.cell? ⟨w.heap.size + 1 + 1, 1, none⟩ = some (.float .f64 x'') := (hc (w.heap.size + 1 + 1) 1 (by simp <;> omega)).trans (last_cell _ _ _ _ _ 1)
  have z22 : w4.cell? ⟨w.heap.size + 1 + 1, 2, none⟩ = some (.string s'') := (hc (w.heap.size + 1 + 1) 2 (by simp <;> omega)).trans (last_cell _ _ _ _ _ 2)
  have z23 : w4.cell? ⟨w.heap.size + 1 + 1, 3, none⟩ = some (.int .i64 r'') := (hc (w.heap.size + 1 + 1) 3 (by simp <;> omega)).trans (last_cell _ _ _ _ _ 3)
  have hS4 : Tri w 3 x s r k' x' s' r' k'' x'' s'' r'' w4 := ⟨z00, z01, z02, z03, z10, z11, z12, z13, z20, z21, z22, z23, hz, below_four B4.out⟩
  clear z00 z01 z02 z03 z10 z11 z12 z13 z20 z21 z22 z23 hc hf hz B1 B2 B3 B4
  refine wp_region_class (C := Tri w 3 x s r k' x' s' r' k'' x'' s'' r'') (by kernel_rfl) (by kernel_rfl) hS4.drew ?_
  go_big_quiet_want
  refine quiet_run (tri_load0 rfl rfl) ?_
  go_big_quiet_on
  simp only [Act.put, List.setIfInBounds_toArray, List.set_cons_zero, List.set_cons_succ]
  go_big_quiet_want
  refine quiet_run (tri_load0 rfl rfl) ?_
  go_big_quiet_on
  simp only [Act.put, List.setIfInBounds_toArray, List.set_cons_zero, List.set_cons_succ]
  go_big_quiet_want
  go_big_quiet_op
  apply Exists.intro
  refine ⟨fun w' hw' => ?_, ?_⟩
  · refine (q00.out _).mono ?_; rintro e w'' ⟨rfl, b⟩; exact ⟨rfl, hw'.keep b⟩
  go_big_quiet_on
  go_big_quiet_want
  go_big_quiet_op
  first | go_big_quiet_on | (refine ⟨_, fun _ _ => rfl, ?_⟩; go_big_quiet_on)
  go_big_quiet_want
  go_big_quiet_op
  go_big_quiet_on
  go_big_quiet_want
  refine quiet_run (tri_load0 rfl rfl) ?_
  go_big_quiet_on
  simp only [Act.put, List.setIfInBounds_toArray, List.set_cons_zero, List.set_cons_succ]
  go_big_quiet_want
  refine quiet_run (tri_load1 rfl rfl) ?_
  go_big_quiet_on
  simp only [Act.put, List.setIfInBounds_toArray, List.set_cons_zero, List.set_cons_succ]
  go_big_quiet_want
  go_big_quiet_op
  apply Exists.intro
  refine ⟨fun w' hw' => ?_, ?_⟩
  · refine (q01.out _).mono ?_; rintro e w'' ⟨rfl, b⟩; exact ⟨rfl, hw'.keep b⟩
  go_big_quiet_on
  go_big_quiet_want
  refine quiet_run (tri_load1 rfl rfl) ?_
  go_big_quiet_on
  simp only [Act.put, List.setIfInBounds_toArray, List.set_cons_zero, List.set_cons_succ]
  go_big_quiet_want
  refine quiet_run (tri_load0 rfl rfl) ?_
  go_big_quiet_on
  simp only [Act.put, List.setIfInBounds_toArray, List.set_cons_zero, List.set_cons_succ]
  go_big_quiet_want
  go_big_quiet_op
  apply Exists.intro
  refine ⟨fun w' hw' => ?_, ?_⟩
  · refine (q10.out _).mono ?_; rintro e w'' ⟨rfl, b⟩; exact ⟨rfl, hw'.keep b⟩
  go_big_quiet_on
  go_big_quiet_want
  go_big_quiet_op
  first | go_big_quiet_on | (refine ⟨_, fun _ _ => rfl, ?_⟩; go_big_quiet_on)
  go_big_quiet_want
  go_big_quiet_op
  first | go_big_quiet_on | (refine ⟨_, fun _ _ => rfl, ?_⟩; go_big_quiet_on)
  go_big_quiet_want
  go_big_quiet_op
  go_big_quiet_on
  go_big_quiet_want
  refine quiet_run (tri_load0 rfl rfl) ?_
  go_big_quiet_on
  simp only [Act.put, List.setIfInBounds_toArray, List.set_cons_zero, List.set_cons_succ]
  go_big_quiet_want
  refine quiet_run (tri_load1 rfl rfl) ?_
  go_big_quiet_on
  simp only [Act.put, List.setIfInBounds_toArray, List.set_cons_zero, List.set_cons_succ]
  go_big_quiet_want
  go_big_quiet_op
  apply Exists.intro
  refine ⟨fun w' hw' => ?_, ?_⟩
  · refine (q01.out _).mono ?_; rintro e w'' ⟨rfl, b⟩; exact ⟨rfl, hw'.keep b⟩
  go_big_quiet_on
  go_big_quiet_want
  go_big_quiet_op
  go_big_quiet_on
  go_big_quiet_want
  refine quiet_run (tri_load1 rfl rfl) ?_
  go_big_quiet_on
  simp only [Act.put, List.setIfInBounds_toArray, List.set_cons_zero, List.set_cons_succ]
  go_big_quiet_want
  refine quiet_run (tri_load2 rfl rfl) ?_
  go_big_quiet_on
  simp only [Act.put, List.setIfInBounds_toArray, List.set_cons_zero, List.set_cons_succ]
  go_big_quiet_want
  go_big_quiet_op
  apply Exists.intro
  refine ⟨fun w' hw' => ?_, ?_⟩
  · refine (q12.out _).mono ?_; rintro e w'' ⟨rfl, b⟩; exact ⟨rfl, hw'.keep b⟩
  go_big_quiet_on
  go_big_quiet_want
  go_big_quiet_op
  first | go_big_quiet_on | (refine ⟨_, fun _ _ => rfl, ?_⟩; go_big_quiet_on)
  go_big_quiet_want
  go_big_quiet_op
  go_big_quiet_on
  go_big_quiet_skip
  go_big_quiet_skip
  go_big_quiet_skip
  go_big_quiet_skip
  go_big_quiet_want
  go_big_quiet_op
  first | go_big_quiet_on | (refine ⟨_, fun _ _ => rfl, ?_⟩; go_big_quiet_on)
  go_big_quiet_want
  go_big_quiet_op
  first | go_big_quiet_on | (refine ⟨_, fun _ _ => rfl, ?_⟩; go_big_quiet_on)
  refine wpQuiet_nil ?_
  intro w5 hS5
  clear hS4
  go_wp2_with fail
  refine wp_region_class (C := Tri w 3 x s r k' x' s' r' k'' x'' s'' r'') (by kernel_rfl) (by kernel_rfl) hS5.drew ?_
  go_big_quiet_want
  refine quiet_run (tri_load0 rfl rfl) ?_
  go_big_quiet_on
  simp only [Act.put, List.setIfInBounds_toArray, List.set_cons_zero, List.set_cons_succ]
  go_big_quiet_want
  go_big_quiet_op
  apply Exists.intro
  refine ⟨fun w' hw' => ?_, ?_⟩
  · refine (c0.out _).mono ?_; rintro e w'' ⟨rfl, b⟩; exact ⟨rfl, hw'.keep b⟩
  go_big_quiet_on
  go_big_quiet_want
  refine quiet_run (tri_load1 rfl rfl) ?_
  go_big_quiet_on
  simp only [Act.put, List.setIfInBounds_toArray, List.set_cons_zero, List.set_cons_succ]
  go_big_quiet_want
  go_big_quiet_op
  apply Exists.intro
  refine ⟨fun w' hw' => ?_, ?_⟩
  · refine (c1.out _).mono ?_; rintro e w'' ⟨rfl, b⟩; exact ⟨rfl, hw'.keep b⟩
  go_big_quiet_on
  go_big_quiet_want
  go_big_quiet_op
  first | go_big_quiet_on | (refine ⟨_, fun _ _ => rfl, ?_⟩; go_big_quiet_on)
  go_big_quiet_want
  go_big_quiet_op
  go_big_quiet_on
  refine wpQuiet_nil ?_
  intro w6 hS6
  clear hS5
  go_wp2_with fail
  refine wp_region_class (C := Tri w 3 x s r k' x' s' r' k'' x'' s'' r'') (by kernel_rfl) (by kernel_rfl) hS6.drew ?_
  go_big_quiet_want
  refine quiet_run (tri_load0 rfl rfl) ?_
  go_big_quiet_on
  simp only [Act.put, List.setIfInBounds_toArray, List.set_cons_zero, List.set_cons_succ]
  go_big_quiet_want
  refine quiet_run (tri_load1 rfl rfl) ?_
  go_big_quiet_on
  simp only [Act.put, List.setIfInBounds_toArray, List.set_cons_zero, List.set_cons_succ]
  go_big_quiet_want
  go_big_quiet_op
  apply Exists.intro
  refine ⟨fun w' hw' => ?_, ?_⟩
  · refine (q01.out _).mono ?_; rintro e w'' ⟨rfl, b⟩; exact ⟨rfl, hw'.keep b⟩
  go_big_quiet_on
  go_big_quiet_want
  go_big_quiet_op
  go_big_quiet_on
  go_big_quiet_want
  go_big_quiet_op
  go_big_quiet_on
  go_big_quiet_want
  go_big_quiet_op
  first | go_big_quiet_on | (refine ⟨_, fun _ _ => rfl, ?_⟩; go_big_quiet_on)
  go_big_quiet_want
  go_big_quiet_op
  go_big_quiet_on
  go_big_quiet_want
  refine quiet_run (tri_load0 rfl rfl) ?_
  go_big_quiet_on
  simp only [Act.put, List.setIfInBounds_toArray, List.set_cons_zero, List.set_cons_succ]
  go_big_quiet_want
  go_big_quiet_op
  apply Exists.intro
  refine ⟨fun w' hw' => ?_, ?_⟩
  · refine (y0.out _).mono ?_; rintro e w'' ⟨rfl, b⟩; exact ⟨rfl, hw'.keep b⟩
  go_big_quiet_on
  go_big_quiet_want
  refine quiet_run (tri_load1 rfl rfl) ?_
  go_big_quiet_on
  simp only [Act.put, List.setIfInBounds_toArray, List.set_cons_zero, List.set_cons_succ]
  go_big_quiet_want
  go_big_quiet_op
  apply Exists.intro
  refine ⟨fun w' hw' => ?_, ?_⟩
  · refine (y1.out _).mono ?_; rintro e w'' ⟨rfl, b⟩; exact ⟨rfl, hw'.keep b⟩
  go_big_quiet_on
  go_big_quiet_want
  go_big_quiet_op
  first | go_big_quiet_on | (refine ⟨_, fun _ _ => rfl, ?_⟩; go_big_quiet_on)
  go_big_quiet_want
  go_big_quiet_op
  go_big_quiet_on
  go_big_quiet_want
  refine quiet_run (tri_load0 rfl rfl) ?_
  go_big_quiet_on
  simp only [Act.put, List.setIfInBounds_toArray, List.set_cons_zero, List.set_cons_succ]
  go_big_quiet_want
  go_big_quiet_op
  apply Exists.intro
  refine ⟨fun w' hw' => ?_, ?_⟩
  · refine (u0.out _).mono ?_; rintro e w'' ⟨rfl, b⟩; exact ⟨rfl, hw'.keep b⟩
  go_big_quiet_on
  go_big_quiet_want
  refine quiet_run (tri_load1 rfl rfl) ?_
  go_big_quiet_on
  simp only [Act.put, List.setIfInBounds_toArray, List.set_cons_zero, List.set_cons_succ]
  go_big_quiet_want
  go_big_quiet_op
  apply Exists.intro
  refine ⟨fun w' hw' => ?_, ?_⟩
  · refine (u1.out _).mono ?_; rintro e w'' ⟨rfl, b⟩; exact ⟨rfl, hw'.keep b⟩
  go_big_quiet_on
  go_big_quiet_want
  go_big_quiet_op
  first | go_big_quiet_on | (refine ⟨_, fun _ _ => rfl, ?_⟩; go_big_quiet_on)
  go_big_quiet_want
  go_big_quiet_op
  first | go_big_quiet_on | (refine ⟨_, fun _ _ => rfl, ?_⟩; go_big_quiet_on)
  go_big_quiet_want
  go_big_quiet_op
  go_big_quiet_on
  go_big_quiet_want
  refine quiet_run (tri_load0 rfl rfl) ?_
  go_big_quiet_on
  simp only [Act.put, List.setIfInBounds_toArray, List.set_cons_zero, List.set_cons_succ]
  go_big_quiet_want
  go_big_quiet_op
  apply Exists.intro
  refine ⟨fun w' hw' => ?_, ?_⟩
  · refine (v0.out _ (tab_below ht.out hw'.out (tab_size ht.out))).mono ?_; rintro e w'' ⟨rfl, b⟩; exact ⟨rfl, hw'.keep b⟩
  go_big_quiet_on
  go_big_quiet_want
  refine quiet_run (tri_load1 rfl rfl) ?_
  go_big_quiet_on
  simp only [Act.put, List.setIfInBounds_toArray, List.set_cons_zero, List.set_cons_succ]
  go_big_quiet_want
  go_big_quiet_op
  apply Exists.intro
  refine ⟨fun w' hw' => ?_, ?_⟩
  · refine (v1.out _ (tab_below ht.out hw'.out (tab_size ht.out))).mono ?_; rintro e w'' ⟨rfl, b⟩; exact ⟨rfl, hw'.keep b⟩
  go_big_quiet_on
  go_big_quiet_want
  go_big_quiet_op
  first | go_big_quiet_on | (refine ⟨_, fun _ _ => rfl, ?_⟩; go_big_quiet_on)
  go_big_quiet_want
  go_big_quiet_op
  first | go_big_quiet_on | (refine ⟨_, fun _ _ => rfl, ?_⟩; go_big_quiet_on)
  go_big_quiet_want
  go_big_quiet_op
  first | go_big_quiet_on | (refine ⟨_, fun _ _ => rfl, ?_⟩; go_big_quiet_on)
  refine wpQuiet_nil ?_
  intro w7 hS7
  clear hS6
  have hSc := hS7
  obtain ⟨za0, za1, za2, za3, zb0, zb1, zb2, zb3, zc0, zc1, zc2, zc3, hz, hB⟩ := hSc
  clear hB
  go_wp2_with fail
  clear za0 za1 za2 za3 zb0 zb1 zb2 zb3 zc0 zc1 zc2 zc3 hz
  refine wp_region_class (C := Tri w 3 x s r k' x' s' r' k'' x'' s'' r'') (by kernel_rfl) (by kernel_rfl) hS7.drew ?_
  go_big_quiet_want
  refine quiet_run (tri_load0 rfl rfl) ?_
  go_big_quiet_on
  simp only [Act.put, List.setIfInBounds_toArray, List.set_cons_zero, List.set_cons_succ]
  go_big_quiet_want
  refine quiet_run (tri_load1 rfl rfl) ?_
  go_big_quiet_on
  simp only [Act.put, List.setIfInBounds_toArray, List.set_cons_zero, List.set_cons_succ]
  go_big_quiet_want
  go_big_quiet_op
  apply Exists.intro
  refine ⟨fun w' hw' => ?_, ?_⟩
  · refine (t01.out _).mono ?_; rintro e w'' ⟨rfl, b⟩; exact ⟨rfl, hw'.keep b⟩
  go_big_quiet_on
  go_big_quiet_want
  refine quiet_run (tri_load0 rfl rfl) ?_
  go_big_quiet_on
  simp only [Act.put, List.setIfInBounds_toArray, List.set_cons_zero, List.set_cons_succ]
  go_big_quiet_want
  refine quiet_run (tri_load1 rfl rfl) ?_
  go_big_quiet_on
  simp only [Act.put, List.setIfInBounds_toArray, List.set_cons_zero, List.set_cons_succ]
  go_big_quiet_want
  go_big_quiet_op
  apply Exists.intro
  refine ⟨fun w' hw' => ?_, ?_⟩
  · refine (q01.out _).mono ?_; rintro e w'' ⟨rfl, b⟩; exact ⟨rfl, hw'.keep b⟩
  go_big_quiet_on
  go_big_quiet_want
  go_big_quiet_op
  go_big_quiet_on
  go_big_quiet_want
  go_big_quiet_op
  go_big_quiet_on
  go_big_quiet_want
  go_big_quiet_op
  first | go_big_quiet_on | (refine ⟨_, fun _ _ => rfl, ?_⟩; go_big_quiet_on)
  go_big_quiet_want
  go_big_quiet_op
  first | go_big_quiet_on | (refine ⟨_, fun _ _ => rfl, ?_⟩; go_big_quiet_on)
  go_big_quiet_want
  go_big_quiet_op
  first | go_big_quiet_on | (refine ⟨_, fun _ _ => rfl, ?_⟩; go_big_quiet_on)
  refine wpQuiet_nil ?_
  intro w8 hS8
  clear hS7
  have hSc := hS8
  obtain ⟨za0, za1, za2, za3, zb0, zb1, zb2, zb3, zc0, zc1, zc2, zc3, hz, hB⟩ := hSc
  clear hB
  go_wp2_with fail
  refine (p01.out _).mono ?_; rintro e y9 ⟨rfl, b⟩
  have hS9 := hS8.keep b
  clear b za0 za1 za2 za3 zb0 zb1 zb2 zb3 zc0 zc1 zc2 zc3 hz
  clear hS8
  have hSc := hS9
  obtain ⟨za0, za1, za2, za3, zb0, zb1, zb2, zb3, zc0, zc1, zc2, zc3, hz, hB⟩ := hSc
  clear hB
  go_wp2_with fail
  refine (p10.out _).mono ?_; rintro e y10 ⟨rfl, b⟩
  have hS10 := hS9.keep b
  clear b za0 za1 za2 za3 zb0 zb1 zb2 zb3 zc0 zc1 zc2 zc3 hz
  clear hS9
  have hSc := hS10
  obtain ⟨za0, za1, za2, za3, zb0, zb1, zb2, zb3, zc0, zc1, zc2, zc3, hz, hB⟩ := hSc
  clear hB
  go_wp2_with fail
  refine (j0.out _).mono ?_; rintro e y11 ⟨rfl, b⟩
  have hS11 := hS10.keep b
  clear b za0 za1 za2 za3 zb0 zb1 zb2 zb3 zc0 zc1 zc2 zc3 hz
  clear hS10
  have hSc := hS11
  obtain ⟨za0, za1, za2, za3, zb0, zb1, zb2, zb3, zc0, zc1, zc2, zc3, hz, hB⟩ := hSc
  clear hB
  go_wp2_with fail
  refine (j1.out _).mono ?_; rintro e y12 ⟨rfl, b⟩
  have hS12 := hS11.keep b
  clear b za0 za1 za2 za3 zb0 zb1 zb2 zb3 zc0 zc1 zc2 zc3 hz
  clear hS11
  have hSc := hS12
  obtain ⟨za0, za1, za2, za3, zb0, zb1, zb2, zb3, zc0, zc1, zc2, zc3, hz, hB⟩ := hSc
  clear hB
  go_wp2_with fail
  refine (t01.out _).mono ?_; rintro e y13 ⟨rfl, b⟩
  have hS13 := hS12.keep b
  clear b za0 za1 za2 za3 zb0 zb1 zb2 zb3 zc0 zc1 zc2 zc3 hz
  clear hS12
  have hSc := hS13
  obtain ⟨za0, za1, za2, za3, zb0, zb1, zb2, zb3, zc0, zc1, zc2, zc3, hz, hB⟩ := hSc
  clear hB
  go_wp2
  go_ret
  exact ⟨by simp, hS13.out⟩

end Go.Proofs.YtajmdpndbfmdmaaDoor
