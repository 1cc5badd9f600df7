/-
  The document's Plain returns what value.Plain does. Conditions: the numbers are words of 64 bits, the kinds bytes.
-/
import Derived.Test.YtajmdpndbfmdmaaDoorValE
import Derived.Test.YtajmdpndbfmdmaaDoorRe
import Derived.Deep.RegionHeld3
namespace Go.Proofs.YtajmdpndbfmdmaaDoor
open Go Go.RowKit

set_option maxHeartbeats 4000000 in
theorem rPlain_3_4 (x : Nat) (s : ByteArray) (r : Int) (x' : Nat) (s' : ByteArray) (r' : Int) (w : World) (hx : x < 18446744073709551616) (hy : x' < 18446744073709551616) (ma : mayV 3 x s r = true) (mb : mayV 4 x' s' r' = true) :
    Calls Tryd.prog 20 #[val 3 x s r, val 4 x' s' r'] w fun e w' => e = .returned (plW (eqRead x s')) ∧ Below w.heap.size w w' := by
  have qa := Lib.hid (fun w' => rMay_any 3 x s r w' (by decide) hx)
  have qb := Lib.hid (fun w' => rMay_any 4 x' s' r' w' (by decide) hy)
  have oa := Lib.hid (fun w' => rObj_any 3 x s r w')
  have ob := Lib.hid (fun w' => rObj_any 4 x' s' r' w')
  rw [ma] at qa
  rw [mb] at qb
  rw [show isObj 3 = false from by decide] at oa
  rw [show isObj 4 = false from by decide] at ob
  have qr := Lib.hid (fun w' => refRead_any s' w' (by have := may_size mb; omega))
  have hfe := Lib.hid (fun z (h : Fl.Fits z (readL (trimV s').data.toList).1) => And.intro (Fl.Fits_lt h) (feq_fits (x := x) h))
  unfold eqRead
  generalize readL (trimV s').data.toList = p at *
  obtain ⟨v, e0⟩ := p
  simp only at qr hfe ⊢
  generalize eqO v x = q at hfe ⊢
  unfold val at *
  clear ma mb
  go_enter Tryd.func20, Tryd.ntmps20
  go_wp2_with fail
  refine (qa.out _).mono ?_; rintro e w1 ⟨rfl, b1⟩
  obtain ⟨hc, hf⟩ := bcell b1
  have B1 := Lib.hid b1
  clear b1
  go_wp2_with fail
  refine (qb.out _).mono ?_; rintro e w2 ⟨rfl, b2⟩
  have B2 := Lib.hid (B1.out.trans (b2.mono B1.out.size))
  clear b2 hc hf
  obtain ⟨hc, hf⟩ := bcell B2.out
  go_wp2_with fail
  refine (oa.out _).mono ?_; rintro e w3 ⟨rfl, b3⟩
  have B3 := Lib.hid (B2.out.trans (b3.mono B2.out.size))
  clear b3 hc hf
  obtain ⟨hc, hf⟩ := bcell B3.out
  go_wp2_with fail
  refine (ob.out _).mono ?_; rintro e w4 ⟨rfl, b4⟩
  have B4 := Lib.hid (B3.out.trans (b4.mono B3.out.size))
  clear b4 hc hf
  obtain ⟨hc, hf⟩ := bcell B4.out
  go_wp2_with fail
  refine (qr.out _).mono ?_; rintro e w6 ⟨z, rfl, hz, b6⟩
  obtain ⟨hzl, hzf⟩ := hfe.out z hz
  have e1 := Fl.ord_eql hzl hx
  rw [hzf] at e1
  have B6 := Lib.hid (B4.out.trans (b6.mono B4.out.size))
  clear b6 hc hf hz hzl hzf
  obtain ⟨hc, hf⟩ := bcell B6.out
  by_cases hez : e0 = 0
  · subst hez
    cases q
    · go_wp2
      go_ret2
      exact ⟨rfl, below_three B6.out⟩
    · go_wp2
      go_ret2
      exact ⟨rfl, below_three B6.out⟩
  · have hen : (e0 == 0) = false := by rw [beq_eq_false_iff_ne]; exact hez
    have hen2 : (e0 != 0) = true := by rw [bne_iff_ne]; exact hez
    have hd : (decide (e0 = 0) && q) = false := by rw [decide_eq_false hez]; rfl
    have hd' := Lib.hid hd
    clear hd
    go_wp2
    go_ret2
    exact ⟨by rw [hd'.out]; rfl, below_three B6.out⟩

set_option maxHeartbeats 4000000 in
theorem rPlain_4_3 (x : Nat) (s : ByteArray) (r : Int) (x' : Nat) (s' : ByteArray) (r' : Int) (w : World) (hx : x < 18446744073709551616) (hy : x' < 18446744073709551616) (ma : mayV 4 x s r = true) (mb : mayV 3 x' s' r' = true) :
    Calls Tryd.prog 20 #[val 4 x s r, val 3 x' s' r'] w fun e w' => e = .returned (plW (eqRead x' s)) ∧ Below w.heap.size w w' := by
  have qa := Lib.hid (fun w' => rMay_any 4 x s r w' (by decide) hx)
  have qb := Lib.hid (fun w' => rMay_any 3 x' s' r' w' (by decide) hy)
  have oa := Lib.hid (fun w' => rObj_any 4 x s r w')
  have ob := Lib.hid (fun w' => rObj_any 3 x' s' r' w')
  rw [ma] at qa
  rw [mb] at qb
  rw [show isObj 4 = false from by decide] at oa
  rw [show isObj 3 = false from by decide] at ob
  have qp := Lib.hid (fun w' => rPlain_3_4 x' s' r' x s r w' hy hx mb ma)
  generalize eqRead x' s = p at *
  unfold val at *
  clear ma mb hx hy
  go_enter Tryd.func20, Tryd.ntmps20
  go_wp2_with fail
  refine (qa.out _).mono ?_; rintro e w1 ⟨rfl, b1⟩
  obtain ⟨hc, hf⟩ := bcell b1
  have B1 := Lib.hid b1
  clear b1
  go_wp2_with fail
  refine (qb.out _).mono ?_; rintro e w2 ⟨rfl, b2⟩
  have B2 := Lib.hid (B1.out.trans (b2.mono B1.out.size))
  clear b2 hc hf
  obtain ⟨hc, hf⟩ := bcell B2.out
  go_wp2_with fail
  refine (oa.out _).mono ?_; rintro e w3 ⟨rfl, b3⟩
  have B3 := Lib.hid (B2.out.trans (b3.mono B2.out.size))
  clear b3 hc hf
  obtain ⟨hc, hf⟩ := bcell B3.out
  go_wp2_with fail
  refine (ob.out _).mono ?_; rintro e w4 ⟨rfl, b4⟩
  have B4 := Lib.hid (B3.out.trans (b4.mono B3.out.size))
  clear b4 hc hf
  obtain ⟨hc, hf⟩ := bcell B4.out
  go_wp2_with fail
  refine (qp.out _).mono ?_; rintro e w5 ⟨rfl, b5⟩
  have B5 := Lib.hid (B4.out.trans (b5.mono B4.out.size))
  clear b5 hc hf
  obtain ⟨hc, hf⟩ := bcell B5.out
  go_wp2
  go_ret2
  exact ⟨rfl, below_three B5.out⟩

set_option maxHeartbeats 4000000 in
theorem rPlain_0_0 (x : Nat) (s : ByteArray) (r : Int) (x' : Nat) (s' : ByteArray) (r' : Int) (w : World) (hx : x < 18446744073709551616) (hy : x' < 18446744073709551616) (ma : mayV 0 x s r = true) (mb : mayV 0 x' s' r' = true) :
    Calls Tryd.prog 20 #[val 0 x s r, val 0 x' s' r'] w fun e w' => e = .returned (plW ((strictV 0 x s r 0 x' s' r', 0))) ∧ Below w.heap.size w w' := by
  have qa := Lib.hid (fun w' => rMay_any 0 x s r w' (by decide) hx)
  have qb := Lib.hid (fun w' => rMay_any 0 x' s' r' w' (by decide) hy)
  have oa := Lib.hid (fun w' => rObj_any 0 x s r w')
  have ob := Lib.hid (fun w' => rObj_any 0 x' s' r' w')
  rw [ma] at qa
  rw [mb] at qb
  rw [show isObj 0 = false from by decide] at oa
  rw [show isObj 0 = false from by decide] at ob
  have qs := Lib.hid (fun w' => rStrict_any 0 x s r 0 x' s' r' w' hx hy)
  generalize strictV 0 x s r 0 x' s' r' = V at *
  unfold val at *
  clear ma mb hx hy
  go_enter Tryd.func20, Tryd.ntmps20
  go_wp2_with fail
  refine (qa.out _).mono ?_; rintro e w1 ⟨rfl, b1⟩
  obtain ⟨hc, hf⟩ := bcell b1
  have B1 := Lib.hid b1
  clear b1
  go_wp2_with fail
  refine (qb.out _).mono ?_; rintro e w2 ⟨rfl, b2⟩
  have B2 := Lib.hid (B1.out.trans (b2.mono B1.out.size))
  clear b2 hc hf
  obtain ⟨hc, hf⟩ := bcell B2.out
  go_wp2_with fail
  refine (oa.out _).mono ?_; rintro e w3 ⟨rfl, b3⟩
  have B3 := Lib.hid (B2.out.trans (b3.mono B2.out.size))
  clear b3 hc hf
  obtain ⟨hc, hf⟩ := bcell B3.out
  go_wp2_with fail
  refine (ob.out _).mono ?_; rintro e w4 ⟨rfl, b4⟩
  have B4 := Lib.hid (B3.out.trans (b4.mono B3.out.size))
  clear b4 hc hf
  obtain ⟨hc, hf⟩ := bcell B4.out
  go_wp2_with fail
  refine (qs.out _).mono ?_; rintro e w5 ⟨rfl, b5⟩
  have B5 := Lib.hid (B4.out.trans (b5.mono B4.out.size))
  clear b5 hc hf
  obtain ⟨hc, hf⟩ := bcell B5.out
  go_wp2
  go_ret2
  exact ⟨rfl, below_three B5.out⟩

set_option maxHeartbeats 4000000 in
theorem rPlain_1_1 (x : Nat) (s : ByteArray) (r : Int) (x' : Nat) (s' : ByteArray) (r' : Int) (w : World) (hx : x < 18446744073709551616) (hy : x' < 18446744073709551616) (ma : mayV 1 x s r = true) (mb : mayV 1 x' s' r' = true) :
    Calls Tryd.prog 20 #[val 1 x s r, val 1 x' s' r'] w fun e w' => e = .returned (plW ((strictV 1 x s r 1 x' s' r', 0))) ∧ Below w.heap.size w w' := by
  have qa := Lib.hid (fun w' => rMay_any 1 x s r w' (by decide) hx)
  have qb := Lib.hid (fun w' => rMay_any 1 x' s' r' w' (by decide) hy)
  have oa := Lib.hid (fun w' => rObj_any 1 x s r w')
  have ob := Lib.hid (fun w' => rObj_any 1 x' s' r' w')
  rw [ma] at qa
  rw [mb] at qb
  rw [show isObj 1 = false from by decide] at oa
  rw [show isObj 1 = false from by decide] at ob
  have qs := Lib.hid (fun w' => rStrict_any 1 x s r 1 x' s' r' w' hx hy)
  generalize strictV 1 x s r 1 x' s' r' = V at *
  unfold val at *
  clear ma mb hx hy
  go_enter Tryd.func20, Tryd.ntmps20
  go_wp2_with fail
  refine (qa.out _).mono ?_; rintro e w1 ⟨rfl, b1⟩
  obtain ⟨hc, hf⟩ := bcell b1
  have B1 := Lib.hid b1
  clear b1
  go_wp2_with fail
  refine (qb.out _).mono ?_; rintro e w2 ⟨rfl, b2⟩
  have B2 := Lib.hid (B1.out.trans (b2.mono B1.out.size))
  clear b2 hc hf
  obtain ⟨hc, hf⟩ := bcell B2.out
  go_wp2_with fail
  refine (oa.out _).mono ?_; rintro e w3 ⟨rfl, b3⟩
  have B3 := Lib.hid (B2.out.trans (b3.mono B2.out.size))
  clear b3 hc hf
  obtain ⟨hc, hf⟩ := bcell B3.out
  go_wp2_with fail
  refine (ob.out _).mono ?_; rintro e w4 ⟨rfl, b4⟩
  have B4 := Lib.hid (B3.out.trans (b4.mono B3.out.size))
  clear b4 hc hf
  obtain ⟨hc, hf⟩ := bcell B4.out
  go_wp2_with fail
  refine (qs.out _).mono ?_; rintro e w5 ⟨rfl, b5⟩
  have B5 := Lib.hid (B4.out.trans (b5.mono B4.out.size))
  clear b5 hc hf
  obtain ⟨hc, hf⟩ := bcell B5.out
  go_wp2
  go_ret2
  exact ⟨rfl, below_three B5.out⟩

set_option maxHeartbeats 4000000 in
theorem rPlain_2_2 (x : Nat) (s : ByteArray) (r : Int) (x' : Nat) (s' : ByteArray) (r' : Int) (w : World) (hx : x < 18446744073709551616) (hy : x' < 18446744073709551616) (ma : mayV 2 x s r = true) (mb : mayV 2 x' s' r' = true) :
    Calls Tryd.prog 20 #[val 2 x s r, val 2 x' s' r'] w fun e w' => e = .returned (plW ((strictV 2 x s r 2 x' s' r', 0))) ∧ Below w.heap.size w w' := by
  have qa := Lib.hid (fun w' => rMay_any 2 x s r w' (by decide) hx)
  have qb := Lib.hid (fun w' => rMay_any 2 x' s' r' w' (by decide) hy)
  have oa := Lib.hid (fun w' => rObj_any 2 x s r w')
  have ob := Lib.hid (fun w' => rObj_any 2 x' s' r' w')
  rw [ma] at qa
  rw [mb] at qb
  rw [show isObj 2 = false from by decide] at oa
  rw [show isObj 2 = false from by decide] at ob
  have qs := Lib.hid (fun w' => rStrict_any 2 x s r 2 x' s' r' w' hx hy)
  generalize strictV 2 x s r 2 x' s' r' = V at *
  unfold val at *
  clear ma mb hx hy
  go_enter Tryd.func20, Tryd.ntmps20
  go_wp2_with fail
  refine (qa.out _).mono ?_; rintro e w1 ⟨rfl, b1⟩
  obtain ⟨hc, hf⟩ := bcell b1
  have B1 := Lib.hid b1
  clear b1
  go_wp2_with fail
  refine (qb.out _).mono ?_; rintro e w2 ⟨rfl, b2⟩
  have B2 := Lib.hid (B1.out.trans (b2.mono B1.out.size))
  clear b2 hc hf
  obtain ⟨hc, hf⟩ := bcell B2.out
  go_wp2_with fail
  refine (oa.out _).mono ?_; rintro e w3 ⟨rfl, b3⟩
  have B3 := Lib.hid (B2.out.trans (b3.mono B2.out.size))
  clear b3 hc hf
  obtain ⟨hc, hf⟩ := bcell B3.out
  go_wp2_with fail
  refine (ob.out _).mono ?_; rintro e w4 ⟨rfl, b4⟩
  have B4 := Lib.hid (B3.out.trans (b4.mono B3.out.size))
  clear b4 hc hf
  obtain ⟨hc, hf⟩ := bcell B4.out
  go_wp2_with fail
  refine (qs.out _).mono ?_; rintro e w5 ⟨rfl, b5⟩
  have B5 := Lib.hid (B4.out.trans (b5.mono B4.out.size))
  clear b5 hc hf
  obtain ⟨hc, hf⟩ := bcell B5.out
  go_wp2
  go_ret2
  exact ⟨rfl, below_three B5.out⟩

set_option maxHeartbeats 4000000 in
theorem rPlain_3_3 (x : Nat) (s : ByteArray) (r : Int) (x' : Nat) (s' : ByteArray) (r' : Int) (w : World) (hx : x < 18446744073709551616) (hy : x' < 18446744073709551616) (ma : mayV 3 x s r = true) (mb : mayV 3 x' s' r' = true) :
    Calls Tryd.prog 20 #[val 3 x s r, val 3 x' s' r'] w fun e w' => e = .returned (plW ((strictV 3 x s r 3 x' s' r', 0))) ∧ Below w.heap.size w w' := by
  have qa := Lib.hid (fun w' => rMay_any 3 x s r w' (by decide) hx)
  have qb := Lib.hid (fun w' => rMay_any 3 x' s' r' w' (by decide) hy)
  have oa := Lib.hid (fun w' => rObj_any 3 x s r w')
  have ob := Lib.hid (fun w' => rObj_any 3 x' s' r' w')
  rw [ma] at qa
  rw [mb] at qb
  rw [show isObj 3 = false from by decide] at oa
  rw [show isObj 3 = false from by decide] at ob
  have qs := Lib.hid (fun w' => rStrict_any 3 x s r 3 x' s' r' w' hx hy)
  generalize strictV 3 x s r 3 x' s' r' = V at *
  unfold val at *
  clear ma mb hx hy
  go_enter Tryd.func20, Tryd.ntmps20
  go_wp2_with fail
  refine (qa.out _).mono ?_; rintro e w1 ⟨rfl, b1⟩
  obtain ⟨hc, hf⟩ := bcell b1
  have B1 := Lib.hid b1
  clear b1
  go_wp2_with fail
  refine (qb.out _).mono ?_; rintro e w2 ⟨rfl, b2⟩
  have B2 := Lib.hid (B1.out.trans (b2.mono B1.out.size))
  clear b2 hc hf
  obtain ⟨hc, hf⟩ := bcell B2.out
  go_wp2_with fail
  refine (oa.out _).mono ?_; rintro e w3 ⟨rfl, b3⟩
  have B3 := Lib.hid (B2.out.trans (b3.mono B2.out.size))
  clear b3 hc hf
  obtain ⟨hc, hf⟩ := bcell B3.out
  go_wp2_with fail
  refine (ob.out _).mono ?_; rintro e w4 ⟨rfl, b4⟩
  have B4 := Lib.hid (B3.out.trans (b4.mono B3.out.size))
  clear b4 hc hf
  obtain ⟨hc, hf⟩ := bcell B4.out
  go_wp2_with fail
  refine (qs.out _).mono ?_; rintro e w5 ⟨rfl, b5⟩
  have B5 := Lib.hid (B4.out.trans (b5.mono B4.out.size))
  clear b5 hc hf
  obtain ⟨hc, hf⟩ := bcell B5.out
  go_wp2
  go_ret2
  exact ⟨rfl, below_three B5.out⟩

set_option maxHeartbeats 4000000 in
theorem rPlain_4_4 (x : Nat) (s : ByteArray) (r : Int) (x' : Nat) (s' : ByteArray) (r' : Int) (w : World) (hx : x < 18446744073709551616) (hy : x' < 18446744073709551616) (ma : mayV 4 x s r = true) (mb : mayV 4 x' s' r' = true) :
    Calls Tryd.prog 20 #[val 4 x s r, val 4 x' s' r'] w fun e w' => e = .returned (plW ((strictV 4 x s r 4 x' s' r', 0))) ∧ Below w.heap.size w w' := by
  have qa := Lib.hid (fun w' => rMay_any 4 x s r w' (by decide) hx)
  have qb := Lib.hid (fun w' => rMay_any 4 x' s' r' w' (by decide) hy)
  have oa := Lib.hid (fun w' => rObj_any 4 x s r w')
  have ob := Lib.hid (fun w' => rObj_any 4 x' s' r' w')
  rw [ma] at qa
  rw [mb] at qb
  rw [show isObj 4 = false from by decide] at oa
  rw [show isObj 4 = false from by decide] at ob
  have qs := Lib.hid (fun w' => rStrict_any 4 x s r 4 x' s' r' w' hx hy)
  generalize strictV 4 x s r 4 x' s' r' = V at *
  unfold val at *
  clear ma mb hx hy
  go_enter Tryd.func20, Tryd.ntmps20
  go_wp2_with fail
  refine (qa.out _).mono ?_; rintro e w1 ⟨rfl, b1⟩
  obtain ⟨hc, hf⟩ := bcell b1
  have B1 := Lib.hid b1
  clear b1
  go_wp2_with fail
  refine (qb.out _).mono ?_; rintro e w2 ⟨rfl, b2⟩
  have B2 := Lib.hid (B1.out.trans (b2.mono B1.out.size))
  clear b2 hc hf
  obtain ⟨hc, hf⟩ := bcell B2.out
  go_wp2_with fail
  refine (oa.out _).mono ?_; rintro e w3 ⟨rfl, b3⟩
  have B3 := Lib.hid (B2.out.trans (b3.mono B2.out.size))
  clear b3 hc hf
  obtain ⟨hc, hf⟩ := bcell B3.out
  go_wp2_with fail
  refine (ob.out _).mono ?_; rintro e w4 ⟨rfl, b4⟩
  have B4 := Lib.hid (B3.out.trans (b4.mono B3.out.size))
  clear b4 hc hf
  obtain ⟨hc, hf⟩ := bcell B4.out
  go_wp2_with fail
  refine (qs.out _).mono ?_; rintro e w5 ⟨rfl, b5⟩
  have B5 := Lib.hid (B4.out.trans (b5.mono B4.out.size))
  clear b5 hc hf
  obtain ⟨hc, hf⟩ := bcell B5.out
  go_wp2
  go_ret2
  exact ⟨rfl, below_three B5.out⟩

set_option maxHeartbeats 4000000 in
theorem rPlain_5_5 (x : Nat) (s : ByteArray) (r : Int) (x' : Nat) (s' : ByteArray) (r' : Int) (w : World) (hx : x < 18446744073709551616) (hy : x' < 18446744073709551616) (ma : mayV 5 x s r = true) (mb : mayV 5 x' s' r' = true) :
    Calls Tryd.prog 20 #[val 5 x s r, val 5 x' s' r'] w fun e w' => e = .returned (plW ((strictV 5 x s r 5 x' s' r', 0))) ∧ Below w.heap.size w w' := by
  have qa := Lib.hid (fun w' => rMay_any 5 x s r w' (by decide) hx)
  have qb := Lib.hid (fun w' => rMay_any 5 x' s' r' w' (by decide) hy)
  have oa := Lib.hid (fun w' => rObj_any 5 x s r w')
  have ob := Lib.hid (fun w' => rObj_any 5 x' s' r' w')
  rw [ma] at qa
  rw [mb] at qb
  rw [show isObj 5 = false from by decide] at oa
  rw [show isObj 5 = false from by decide] at ob
  have qs := Lib.hid (fun w' => rStrict_any 5 x s r 5 x' s' r' w' hx hy)
  generalize strictV 5 x s r 5 x' s' r' = V at *
  unfold val at *
  clear ma mb hx hy
  go_enter Tryd.func20, Tryd.ntmps20
  go_wp2_with fail
  refine (qa.out _).mono ?_; rintro e w1 ⟨rfl, b1⟩
  obtain ⟨hc, hf⟩ := bcell b1
  have B1 := Lib.hid b1
  clear b1
  go_wp2_with fail
  refine (qb.out _).mono ?_; rintro e w2 ⟨rfl, b2⟩
  have B2 := Lib.hid (B1.out.trans (b2.mono B1.out.size))
  clear b2 hc hf
  obtain ⟨hc, hf⟩ := bcell B2.out
  go_wp2_with fail
  refine (oa.out _).mono ?_; rintro e w3 ⟨rfl, b3⟩
  have B3 := Lib.hid (B2.out.trans (b3.mono B2.out.size))
  clear b3 hc hf
  obtain ⟨hc, hf⟩ := bcell B3.out
  go_wp2_with fail
  refine (ob.out _).mono ?_; rintro e w4 ⟨rfl, b4⟩
  have B4 := Lib.hid (B3.out.trans (b4.mono B3.out.size))
  clear b4 hc hf
  obtain ⟨hc, hf⟩ := bcell B4.out
  go_wp2_with fail
  refine (qs.out _).mono ?_; rintro e w5 ⟨rfl, b5⟩
  have B5 := Lib.hid (B4.out.trans (b5.mono B4.out.size))
  clear b5 hc hf
  obtain ⟨hc, hf⟩ := bcell B5.out
  go_wp2
  go_ret2
  exact ⟨rfl, below_three B5.out⟩

set_option maxHeartbeats 4000000 in
theorem rPlain_0_1 (x : Nat) (s : ByteArray) (r : Int) (x' : Nat) (s' : ByteArray) (r' : Int) (w : World) (hx : x < 18446744073709551616) (hy : x' < 18446744073709551616) (ma : mayV 0 x s r = true) (mb : mayV 1 x' s' r' = true) :
    Calls Tryd.prog 20 #[val 0 x s r, val 1 x' s' r'] w fun e w' => e = .returned (plW ((true, 0))) ∧ Below w.heap.size w w' := by
  have qa := Lib.hid (fun w' => rMay_any 0 x s r w' (by decide) hx)
  have qb := Lib.hid (fun w' => rMay_any 1 x' s' r' w' (by decide) hy)
  have oa := Lib.hid (fun w' => rObj_any 0 x s r w')
  have ob := Lib.hid (fun w' => rObj_any 1 x' s' r' w')
  rw [ma] at qa
  rw [mb] at qb
  rw [show isObj 0 = false from by decide] at oa
  rw [show isObj 1 = false from by decide] at ob
  unfold val at *
  clear ma mb hx hy
  go_enter Tryd.func20, Tryd.ntmps20
  go_wp2_with fail
  refine (qa.out _).mono ?_; rintro e w1 ⟨rfl, b1⟩
  obtain ⟨hc, hf⟩ := bcell b1
  have B1 := Lib.hid b1
  clear b1
  go_wp2_with fail
  refine (qb.out _).mono ?_; rintro e w2 ⟨rfl, b2⟩
  have B2 := Lib.hid (B1.out.trans (b2.mono B1.out.size))
  clear b2 hc hf
  obtain ⟨hc, hf⟩ := bcell B2.out
  go_wp2_with fail
  refine (oa.out _).mono ?_; rintro e w3 ⟨rfl, b3⟩
  have B3 := Lib.hid (B2.out.trans (b3.mono B2.out.size))
  clear b3 hc hf
  obtain ⟨hc, hf⟩ := bcell B3.out
  go_wp2_with fail
  refine (ob.out _).mono ?_; rintro e w4 ⟨rfl, b4⟩
  have B4 := Lib.hid (B3.out.trans (b4.mono B3.out.size))
  clear b4 hc hf
  obtain ⟨hc, hf⟩ := bcell B4.out
  go_wp2
  go_ret2
  exact ⟨rfl, below_three B4.out⟩

set_option maxHeartbeats 4000000 in
theorem rPlain_0_3 (x : Nat) (s : ByteArray) (r : Int) (x' : Nat) (s' : ByteArray) (r' : Int) (w : World) (hx : x < 18446744073709551616) (hy : x' < 18446744073709551616) (ma : mayV 0 x s r = true) (mb : mayV 3 x' s' r' = true) :
    Calls Tryd.prog 20 #[val 0 x s r, val 3 x' s' r'] w fun e w' => e = .returned (plW ((false, 0))) ∧ Below w.heap.size w w' := by
  have qa := Lib.hid (fun w' => rMay_any 0 x s r w' (by decide) hx)
  have qb := Lib.hid (fun w' => rMay_any 3 x' s' r' w' (by decide) hy)
  have oa := Lib.hid (fun w' => rObj_any 0 x s r w')
  have ob := Lib.hid (fun w' => rObj_any 3 x' s' r' w')
  rw [ma] at qa
  rw [mb] at qb
  rw [show isObj 0 = false from by decide] at oa
  rw [show isObj 3 = false from by decide] at ob
  unfold val at *
  clear ma mb hx hy
  go_enter Tryd.func20, Tryd.ntmps20
  go_wp2_with fail
  refine (qa.out _).mono ?_; rintro e w1 ⟨rfl, b1⟩
  obtain ⟨hc, hf⟩ := bcell b1
  have B1 := Lib.hid b1
  clear b1
  go_wp2_with fail
  refine (qb.out _).mono ?_; rintro e w2 ⟨rfl, b2⟩
  have B2 := Lib.hid (B1.out.trans (b2.mono B1.out.size))
  clear b2 hc hf
  obtain ⟨hc, hf⟩ := bcell B2.out
  go_wp2_with fail
  refine (oa.out _).mono ?_; rintro e w3 ⟨rfl, b3⟩
  have B3 := Lib.hid (B2.out.trans (b3.mono B2.out.size))
  clear b3 hc hf
  obtain ⟨hc, hf⟩ := bcell B3.out
  go_wp2_with fail
  refine (ob.out _).mono ?_; rintro e w4 ⟨rfl, b4⟩
  have B4 := Lib.hid (B3.out.trans (b4.mono B3.out.size))
  clear b4 hc hf
  obtain ⟨hc, hf⟩ := bcell B4.out
  go_wp2
  go_ret2
  exact ⟨rfl, below_three B4.out⟩

set_option maxHeartbeats 4000000 in
theorem rPlain_0_4 (x : Nat) (s : ByteArray) (r : Int) (x' : Nat) (s' : ByteArray) (r' : Int) (w : World) (hx : x < 18446744073709551616) (hy : x' < 18446744073709551616) (ma : mayV 0 x s r = true) (mb : mayV 4 x' s' r' = true) :
    Calls Tryd.prog 20 #[val 0 x s r, val 4 x' s' r'] w fun e w' => e = .returned (plW ((false, 0))) ∧ Below w.heap.size w w' := by
  have qa := Lib.hid (fun w' => rMay_any 0 x s r w' (by decide) hx)
  have qb := Lib.hid (fun w' => rMay_any 4 x' s' r' w' (by decide) hy)
  have oa := Lib.hid (fun w' => rObj_any 0 x s r w')
  have ob := Lib.hid (fun w' => rObj_any 4 x' s' r' w')
  rw [ma] at qa
  rw [mb] at qb
  rw [show isObj 0 = false from by decide] at oa
  rw [show isObj 4 = false from by decide] at ob
  unfold val at *
  clear ma mb hx hy
  go_enter Tryd.func20, Tryd.ntmps20
  go_wp2_with fail
  refine (qa.out _).mono ?_; rintro e w1 ⟨rfl, b1⟩
  obtain ⟨hc, hf⟩ := bcell b1
  have B1 := Lib.hid b1
  clear b1
  go_wp2_with fail
  refine (qb.out _).mono ?_; rintro e w2 ⟨rfl, b2⟩
  have B2 := Lib.hid (B1.out.trans (b2.mono B1.out.size))
  clear b2 hc hf
  obtain ⟨hc, hf⟩ := bcell B2.out
  go_wp2_with fail
  refine (oa.out _).mono ?_; rintro e w3 ⟨rfl, b3⟩
  have B3 := Lib.hid (B2.out.trans (b3.mono B2.out.size))
  clear b3 hc hf
  obtain ⟨hc, hf⟩ := bcell B3.out
  go_wp2_with fail
  refine (ob.out _).mono ?_; rintro e w4 ⟨rfl, b4⟩
  have B4 := Lib.hid (B3.out.trans (b4.mono B3.out.size))
  clear b4 hc hf
  obtain ⟨hc, hf⟩ := bcell B4.out
  go_wp2
  go_ret2
  exact ⟨rfl, below_three B4.out⟩

set_option maxHeartbeats 4000000 in
theorem rPlain_0_5 (x : Nat) (s : ByteArray) (r : Int) (x' : Nat) (s' : ByteArray) (r' : Int) (w : World) (hx : x < 18446744073709551616) (hy : x' < 18446744073709551616) (ma : mayV 0 x s r = true) (mb : mayV 5 x' s' r' = true) :
    Calls Tryd.prog 20 #[val 0 x s r, val 5 x' s' r'] w fun e w' => e = .returned (plW ((false, 0))) ∧ Below w.heap.size w w' := by
  have qa := Lib.hid (fun w' => rMay_any 0 x s r w' (by decide) hx)
  have qb := Lib.hid (fun w' => rMay_any 5 x' s' r' w' (by decide) hy)
  have oa := Lib.hid (fun w' => rObj_any 0 x s r w')
  have ob := Lib.hid (fun w' => rObj_any 5 x' s' r' w')
  rw [ma] at qa
  rw [mb] at qb
  rw [show isObj 0 = false from by decide] at oa
  rw [show isObj 5 = false from by decide] at ob
  unfold val at *
  clear ma mb hx hy
  go_enter Tryd.func20, Tryd.ntmps20
  go_wp2_with fail
  refine (qa.out _).mono ?_; rintro e w1 ⟨rfl, b1⟩
  obtain ⟨hc, hf⟩ := bcell b1
  have B1 := Lib.hid b1
  clear b1
  go_wp2_with fail
  refine (qb.out _).mono ?_; rintro e w2 ⟨rfl, b2⟩
  have B2 := Lib.hid (B1.out.trans (b2.mono B1.out.size))
  clear b2 hc hf
  obtain ⟨hc, hf⟩ := bcell B2.out
  go_wp2_with fail
  refine (oa.out _).mono ?_; rintro e w3 ⟨rfl, b3⟩
  have B3 := Lib.hid (B2.out.trans (b3.mono B2.out.size))
  clear b3 hc hf
  obtain ⟨hc, hf⟩ := bcell B3.out
  go_wp2_with fail
  refine (ob.out _).mono ?_; rintro e w4 ⟨rfl, b4⟩
  have B4 := Lib.hid (B3.out.trans (b4.mono B3.out.size))
  clear b4 hc hf
  obtain ⟨hc, hf⟩ := bcell B4.out
  go_wp2
  go_ret2
  exact ⟨rfl, below_three B4.out⟩

set_option maxHeartbeats 4000000 in
theorem rPlain_1_0 (x : Nat) (s : ByteArray) (r : Int) (x' : Nat) (s' : ByteArray) (r' : Int) (w : World) (hx : x < 18446744073709551616) (hy : x' < 18446744073709551616) (ma : mayV 1 x s r = true) (mb : mayV 0 x' s' r' = true) :
    Calls Tryd.prog 20 #[val 1 x s r, val 0 x' s' r'] w fun e w' => e = .returned (plW ((true, 0))) ∧ Below w.heap.size w w' := by
  have qa := Lib.hid (fun w' => rMay_any 1 x s r w' (by decide) hx)
  have qb := Lib.hid (fun w' => rMay_any 0 x' s' r' w' (by decide) hy)
  have oa := Lib.hid (fun w' => rObj_any 1 x s r w')
  have ob := Lib.hid (fun w' => rObj_any 0 x' s' r' w')
  rw [ma] at qa
  rw [mb] at qb
  rw [show isObj 1 = false from by decide] at oa
  rw [show isObj 0 = false from by decide] at ob
  unfold val at *
  clear ma mb hx hy
  go_enter Tryd.func20, Tryd.ntmps20
  go_wp2_with fail
  refine (qa.out _).mono ?_; rintro e w1 ⟨rfl, b1⟩
  obtain ⟨hc, hf⟩ := bcell b1
  have B1 := Lib.hid b1
  clear b1
  go_wp2_with fail
  refine (qb.out _).mono ?_; rintro e w2 ⟨rfl, b2⟩
  have B2 := Lib.hid (B1.out.trans (b2.mono B1.out.size))
  clear b2 hc hf
  obtain ⟨hc, hf⟩ := bcell B2.out
  go_wp2_with fail
  refine (oa.out _).mono ?_; rintro e w3 ⟨rfl, b3⟩
  have B3 := Lib.hid (B2.out.trans (b3.mono B2.out.size))
  clear b3 hc hf
  obtain ⟨hc, hf⟩ := bcell B3.out
  go_wp2_with fail
  refine (ob.out _).mono ?_; rintro e w4 ⟨rfl, b4⟩
  have B4 := Lib.hid (B3.out.trans (b4.mono B3.out.size))
  clear b4 hc hf
  obtain ⟨hc, hf⟩ := bcell B4.out
  go_wp2
  go_ret2
  exact ⟨rfl, below_three B4.out⟩

set_option maxHeartbeats 4000000 in
theorem rPlain_1_3 (x : Nat) (s : ByteArray) (r : Int) (x' : Nat) (s' : ByteArray) (r' : Int) (w : World) (hx : x < 18446744073709551616) (hy : x' < 18446744073709551616) (ma : mayV 1 x s r = true) (mb : mayV 3 x' s' r' = true) :
    Calls Tryd.prog 20 #[val 1 x s r, val 3 x' s' r'] w fun e w' => e = .returned (plW ((false, 0))) ∧ Below w.heap.size w w' := by
  have qa := Lib.hid (fun w' => rMay_any 1 x s r w' (by decide) hx)
  have qb := Lib.hid (fun w' => rMay_any 3 x' s' r' w' (by decide) hy)
  have oa := Lib.hid (fun w' => rObj_any 1 x s r w')
  have ob := Lib.hid (fun w' => rObj_any 3 x' s' r' w')
  rw [ma] at qa
  rw [mb] at qb
  rw [show isObj 1 = false from by decide] at oa
  rw [show isObj 3 = false from by decide] at ob
  unfold val at *
  clear ma mb hx hy
  go_enter Tryd.func20, Tryd.ntmps20
  go_wp2_with fail
  refine (qa.out _).mono ?_; rintro e w1 ⟨rfl, b1⟩
  obtain ⟨hc, hf⟩ := bcell b1
  have B1 := Lib.hid b1
  clear b1
  go_wp2_with fail
  refine (qb.out _).mono ?_; rintro e w2 ⟨rfl, b2⟩
  have B2 := Lib.hid (B1.out.trans (b2.mono B1.out.size))
  clear b2 hc hf
  obtain ⟨hc, hf⟩ := bcell B2.out
  go_wp2_with fail
  refine (oa.out _).mono ?_; rintro e w3 ⟨rfl, b3⟩
  have B3 := Lib.hid (B2.out.trans (b3.mono B2.out.size))
  clear b3 hc hf
  obtain ⟨hc, hf⟩ := bcell B3.out
  go_wp2_with fail
  refine (ob.out _).mono ?_; rintro e w4 ⟨rfl, b4⟩
  have B4 := Lib.hid (B3.out.trans (b4.mono B3.out.size))
  clear b4 hc hf
  obtain ⟨hc, hf⟩ := bcell B4.out
  go_wp2
  go_ret2
  exact ⟨rfl, below_three B4.out⟩

set_option maxHeartbeats 4000000 in
theorem rPlain_1_4 (x : Nat) (s : ByteArray) (r : Int) (x' : Nat) (s' : ByteArray) (r' : Int) (w : World) (hx : x < 18446744073709551616) (hy : x' < 18446744073709551616) (ma : mayV 1 x s r = true) (mb : mayV 4 x' s' r' = true) :
    Calls Tryd.prog 20 #[val 1 x s r, val 4 x' s' r'] w fun e w' => e = .returned (plW ((false, 0))) ∧ Below w.heap.size w w' := by
  have qa := Lib.hid (fun w' => rMay_any 1 x s r w' (by decide) hx)
  have qb := Lib.hid (fun w' => rMay_any 4 x' s' r' w' (by decide) hy)
  have oa := Lib.hid (fun w' => rObj_any 1 x s r w')
  have ob := Lib.hid (fun w' => rObj_any 4 x' s' r' w')
  rw [ma] at qa
  rw [mb] at qb
  rw [show isObj 1 = false from by decide] at oa
  rw [show isObj 4 = false from by decide] at ob
  unfold val at *
  clear ma mb hx hy
  go_enter Tryd.func20, Tryd.ntmps20
  go_wp2_with fail
  refine (qa.out _).mono ?_; rintro e w1 ⟨rfl, b1⟩
  obtain ⟨hc, hf⟩ := bcell b1
  have B1 := Lib.hid b1
  clear b1
  go_wp2_with fail
  refine (qb.out _).mono ?_; rintro e w2 ⟨rfl, b2⟩
  have B2 := Lib.hid (B1.out.trans (b2.mono B1.out.size))
  clear b2 hc hf
  obtain ⟨hc, hf⟩ := bcell B2.out
  go_wp2_with fail
  refine (oa.out _).mono ?_; rintro e w3 ⟨rfl, b3⟩
  have B3 := Lib.hid (B2.out.trans (b3.mono B2.out.size))
  clear b3 hc hf
  obtain ⟨hc, hf⟩ := bcell B3.out
  go_wp2_with fail
  refine (ob.out _).mono ?_; rintro e w4 ⟨rfl, b4⟩
  have B4 := Lib.hid (B3.out.trans (b4.mono B3.out.size))
  clear b4 hc hf
  obtain ⟨hc, hf⟩ := bcell B4.out
  go_wp2
  go_ret2
  exact ⟨rfl, below_three B4.out⟩

set_option maxHeartbeats 4000000 in
theorem rPlain_1_5 (x : Nat) (s : ByteArray) (r : Int) (x' : Nat) (s' : ByteArray) (r' : Int) (w : World) (hx : x < 18446744073709551616) (hy : x' < 18446744073709551616) (ma : mayV 1 x s r = true) (mb : mayV 5 x' s' r' = true) :
    Calls Tryd.prog 20 #[val 1 x s r, val 5 x' s' r'] w fun e w' => e = .returned (plW ((false, 0))) ∧ Below w.heap.size w w' := by
  have qa := Lib.hid (fun w' => rMay_any 1 x s r w' (by decide) hx)
  have qb := Lib.hid (fun w' => rMay_any 5 x' s' r' w' (by decide) hy)
  have oa := Lib.hid (fun w' => rObj_any 1 x s r w')
  have ob := Lib.hid (fun w' => rObj_any 5 x' s' r' w')
  rw [ma] at qa
  rw [mb] at qb
  rw [show isObj 1 = false from by decide] at oa
  rw [show isObj 5 = false from by decide] at ob
  unfold val at *
  clear ma mb hx hy
  go_enter Tryd.func20, Tryd.ntmps20
  go_wp2_with fail
  refine (qa.out _).mono ?_; rintro e w1 ⟨rfl, b1⟩
  obtain ⟨hc, hf⟩ := bcell b1
  have B1 := Lib.hid b1
  clear b1
  go_wp2_with fail
  refine (qb.out _).mono ?_; rintro e w2 ⟨rfl, b2⟩
  have B2 := Lib.hid (B1.out.trans (b2.mono B1.out.size))
  clear b2 hc hf
  obtain ⟨hc, hf⟩ := bcell B2.out
  go_wp2_with fail
  refine (oa.out _).mono ?_; rintro e w3 ⟨rfl, b3⟩
  have B3 := Lib.hid (B2.out.trans (b3.mono B2.out.size))
  clear b3 hc hf
  obtain ⟨hc, hf⟩ := bcell B3.out
  go_wp2_with fail
  refine (ob.out _).mono ?_; rintro e w4 ⟨rfl, b4⟩
  have B4 := Lib.hid (B3.out.trans (b4.mono B3.out.size))
  clear b4 hc hf
  obtain ⟨hc, hf⟩ := bcell B4.out
  go_wp2
  go_ret2
  exact ⟨rfl, below_three B4.out⟩

set_option maxHeartbeats 4000000 in
theorem rPlain_3_0 (x : Nat) (s : ByteArray) (r : Int) (x' : Nat) (s' : ByteArray) (r' : Int) (w : World) (hx : x < 18446744073709551616) (hy : x' < 18446744073709551616) (ma : mayV 3 x s r = true) (mb : mayV 0 x' s' r' = true) :
    Calls Tryd.prog 20 #[val 3 x s r, val 0 x' s' r'] w fun e w' => e = .returned (plW ((false, 0))) ∧ Below w.heap.size w w' := by
  have qa := Lib.hid (fun w' => rMay_any 3 x s r w' (by decide) hx)
  have qb := Lib.hid (fun w' => rMay_any 0 x' s' r' w' (by decide) hy)
  have oa := Lib.hid (fun w' => rObj_any 3 x s r w')
  have ob := Lib.hid (fun w' => rObj_any 0 x' s' r' w')
  rw [ma] at qa
  rw [mb] at qb
  rw [show isObj 3 = false from by decide] at oa
  rw [show isObj 0 = false from by decide] at ob
  unfold val at *
  clear ma mb hx hy
  go_enter Tryd.func20, Tryd.ntmps20
  go_wp2_with fail
  refine (qa.out _).mono ?_; rintro e w1 ⟨rfl, b1⟩
  obtain ⟨hc, hf⟩ := bcell b1
  have B1 := Lib.hid b1
  clear b1
  go_wp2_with fail
  refine (qb.out _).mono ?_; rintro e w2 ⟨rfl, b2⟩
  have B2 := Lib.hid (B1.out.trans (b2.mono B1.out.size))
  clear b2 hc hf
  obtain ⟨hc, hf⟩ := bcell B2.out
  go_wp2_with fail
  refine (oa.out _).mono ?_; rintro e w3 ⟨rfl, b3⟩
  have B3 := Lib.hid (B2.out.trans (b3.mono B2.out.size))
  clear b3 hc hf
  obtain ⟨hc, hf⟩ := bcell B3.out
  go_wp2_with fail
  refine (ob.out _).mono ?_; rintro e w4 ⟨rfl, b4⟩
  have B4 := Lib.hid (B3.out.trans (b4.mono B3.out.size))
  clear b4 hc hf
  obtain ⟨hc, hf⟩ := bcell B4.out
  go_wp2
  go_ret2
  exact ⟨rfl, below_three B4.out⟩

set_option maxHeartbeats 4000000 in
theorem rPlain_3_1 (x : Nat) (s : ByteArray) (r : Int) (x' : Nat) (s' : ByteArray) (r' : Int) (w : World) (hx : x < 18446744073709551616) (hy : x' < 18446744073709551616) (ma : mayV 3 x s r = true) (mb : mayV 1 x' s' r' = true) :
    Calls Tryd.prog 20 #[val 3 x s r, val 1 x' s' r'] w fun e w' => e = .returned (plW ((false, 0))) ∧ Below w.heap.size w w' := by
  have qa := Lib.hid (fun w' => rMay_any 3 x s r w' (by decide) hx)
  have qb := Lib.hid (fun w' => rMay_any 1 x' s' r' w' (by decide) hy)
  have oa := Lib.hid (fun w' => rObj_any 3 x s r w')
  have ob := Lib.hid (fun w' => rObj_any 1 x' s' r' w')
  rw [ma] at qa
  rw [mb] at qb
  rw [show isObj 3 = false from by decide] at oa
  rw [show isObj 1 = false from by decide] at ob
  unfold val at *
  clear ma mb hx hy
  go_enter Tryd.func20, Tryd.ntmps20
  go_wp2_with fail
  refine (qa.out _).mono ?_; rintro e w1 ⟨rfl, b1⟩
  obtain ⟨hc, hf⟩ := bcell b1
  have B1 := Lib.hid b1
  clear b1
  go_wp2_with fail
  refine (qb.out _).mono ?_; rintro e w2 ⟨rfl, b2⟩
  have B2 := Lib.hid (B1.out.trans (b2.mono B1.out.size))
  clear b2 hc hf
  obtain ⟨hc, hf⟩ := bcell B2.out
  go_wp2_with fail
  refine (oa.out _).mono ?_; rintro e w3 ⟨rfl, b3⟩
  have B3 := Lib.hid (B2.out.trans (b3.mono B2.out.size))
  clear b3 hc hf
  obtain ⟨hc, hf⟩ := bcell B3.out
  go_wp2_with fail
  refine (ob.out _).mono ?_; rintro e w4 ⟨rfl, b4⟩
  have B4 := Lib.hid (B3.out.trans (b4.mono B3.out.size))
  clear b4 hc hf
  obtain ⟨hc, hf⟩ := bcell B4.out
  go_wp2
  go_ret2
  exact ⟨rfl, below_three B4.out⟩

set_option maxHeartbeats 4000000 in
theorem rPlain_3_5 (x : Nat) (s : ByteArray) (r : Int) (x' : Nat) (s' : ByteArray) (r' : Int) (w : World) (hx : x < 18446744073709551616) (hy : x' < 18446744073709551616) (ma : mayV 3 x s r = true) (mb : mayV 5 x' s' r' = true) :
    Calls Tryd.prog 20 #[val 3 x s r, val 5 x' s' r'] w fun e w' => e = .returned (plW ((false, 0))) ∧ Below w.heap.size w w' := by
  have qa := Lib.hid (fun w' => rMay_any 3 x s r w' (by decide) hx)
  have qb := Lib.hid (fun w' => rMay_any 5 x' s' r' w' (by decide) hy)
  have oa := Lib.hid (fun w' => rObj_any 3 x s r w')
  have ob := Lib.hid (fun w' => rObj_any 5 x' s' r' w')
  rw [ma] at qa
  rw [mb] at qb
  rw [show isObj 3 = false from by decide] at oa
  rw [show isObj 5 = false from by decide] at ob
  unfold val at *
  clear ma mb hx hy
  go_enter Tryd.func20, Tryd.ntmps20
  go_wp2_with fail
  refine (qa.out _).mono ?_; rintro e w1 ⟨rfl, b1⟩
  obtain ⟨hc, hf⟩ := bcell b1
  have B1 := Lib.hid b1
  clear b1
  go_wp2_with fail
  refine (qb.out _).mono ?_; rintro e w2 ⟨rfl, b2⟩
  have B2 := Lib.hid (B1.out.trans (b2.mono B1.out.size))
  clear b2 hc hf
  obtain ⟨hc, hf⟩ := bcell B2.out
  go_wp2_with fail
  refine (oa.out _).mono ?_; rintro e w3 ⟨rfl, b3⟩
  have B3 := Lib.hid (B2.out.trans (b3.mono B2.out.size))
  clear b3 hc hf
  obtain ⟨hc, hf⟩ := bcell B3.out
  go_wp2_with fail
  refine (ob.out _).mono ?_; rintro e w4 ⟨rfl, b4⟩
  have B4 := Lib.hid (B3.out.trans (b4.mono B3.out.size))
  clear b4 hc hf
  obtain ⟨hc, hf⟩ := bcell B4.out
  go_wp2
  go_ret2
  exact ⟨rfl, below_three B4.out⟩

set_option maxHeartbeats 4000000 in
theorem rPlain_4_0 (x : Nat) (s : ByteArray) (r : Int) (x' : Nat) (s' : ByteArray) (r' : Int) (w : World) (hx : x < 18446744073709551616) (hy : x' < 18446744073709551616) (ma : mayV 4 x s r = true) (mb : mayV 0 x' s' r' = true) :
    Calls Tryd.prog 20 #[val 4 x s r, val 0 x' s' r'] w fun e w' => e = .returned (plW ((false, 0))) ∧ Below w.heap.size w w' := by
  have qa := Lib.hid (fun w' => rMay_any 4 x s r w' (by decide) hx)
  have qb := Lib.hid (fun w' => rMay_any 0 x' s' r' w' (by decide) hy)
  have oa := Lib.hid (fun w' => rObj_any 4 x s r w')
  have ob := Lib.hid (fun w' => rObj_any 0 x' s' r' w')
  rw [ma] at qa
  rw [mb] at qb
  rw [show isObj 4 = false from by decide] at oa
  rw [show isObj 0 = false from by decide] at ob
  unfold val at *
  clear ma mb hx hy
  go_enter Tryd.func20, Tryd.ntmps20
  go_wp2_with fail
  refine (qa.out _).mono ?_; rintro e w1 ⟨rfl, b1⟩
  obtain ⟨hc, hf⟩ := bcell b1
  have B1 := Lib.hid b1
  clear b1
  go_wp2_with fail
  refine (qb.out _).mono ?_; rintro e w2 ⟨rfl, b2⟩
  have B2 := Lib.hid (B1.out.trans (b2.mono B1.out.size))
  clear b2 hc hf
  obtain ⟨hc, hf⟩ := bcell B2.out
  go_wp2_with fail
  refine (oa.out _).mono ?_; rintro e w3 ⟨rfl, b3⟩
  have B3 := Lib.hid (B2.out.trans (b3.mono B2.out.size))
  clear b3 hc hf
  obtain ⟨hc, hf⟩ := bcell B3.out
  go_wp2_with fail
  refine (ob.out _).mono ?_; rintro e w4 ⟨rfl, b4⟩
  have B4 := Lib.hid (B3.out.trans (b4.mono B3.out.size))
  clear b4 hc hf
  obtain ⟨hc, hf⟩ := bcell B4.out
  go_wp2
  go_ret2
  exact ⟨rfl, below_three B4.out⟩

set_option maxHeartbeats 4000000 in
theorem rPlain_4_1 (x : Nat) (s : ByteArray) (r : Int) (x' : Nat) (s' : ByteArray) (r' : Int) (w : World) (hx : x < 18446744073709551616) (hy : x' < 18446744073709551616) (ma : mayV 4 x s r = true) (mb : mayV 1 x' s' r' = true) :
    Calls Tryd.prog 20 #[val 4 x s r, val 1 x' s' r'] w fun e w' => e = .returned (plW ((false, 0))) ∧ Below w.heap.size w w' := by
  have qa := Lib.hid (fun w' => rMay_any 4 x s r w' (by decide) hx)
  have qb := Lib.hid (fun w' => rMay_any 1 x' s' r' w' (by decide) hy)
  have oa := Lib.hid (fun w' => rObj_any 4 x s r w')
  have ob := Lib.hid (fun w' => rObj_any 1 x' s' r' w')
  rw [ma] at qa
  rw [mb] at qb
  rw [show isObj 4 = false from by decide] at oa
  rw [show isObj 1 = false from by decide] at ob
  unfold val at *
  clear ma mb hx hy
  go_enter Tryd.func20, Tryd.ntmps20
  go_wp2_with fail
  refine (qa.out _).mono ?_; rintro e w1 ⟨rfl, b1⟩
  obtain ⟨hc, hf⟩ := bcell b1
  have B1 := Lib.hid b1
  clear b1
  go_wp2_with fail
  refine (qb.out _).mono ?_; rintro e w2 ⟨rfl, b2⟩
  have B2 := Lib.hid (B1.out.trans (b2.mono B1.out.size))
  clear b2 hc hf
  obtain ⟨hc, hf⟩ := bcell B2.out
  go_wp2_with fail
  refine (oa.out _).mono ?_; rintro e w3 ⟨rfl, b3⟩
  have B3 := Lib.hid (B2.out.trans (b3.mono B2.out.size))
  clear b3 hc hf
  obtain ⟨hc, hf⟩ := bcell B3.out
  go_wp2_with fail
  refine (ob.out _).mono ?_; rintro e w4 ⟨rfl, b4⟩
  have B4 := Lib.hid (B3.out.trans (b4.mono B3.out.size))
  clear b4 hc hf
  obtain ⟨hc, hf⟩ := bcell B4.out
  go_wp2
  go_ret2
  exact ⟨rfl, below_three B4.out⟩

set_option maxHeartbeats 4000000 in
theorem rPlain_4_5 (x : Nat) (s : ByteArray) (r : Int) (x' : Nat) (s' : ByteArray) (r' : Int) (w : World) (hx : x < 18446744073709551616) (hy : x' < 18446744073709551616) (ma : mayV 4 x s r = true) (mb : mayV 5 x' s' r' = true) :
    Calls Tryd.prog 20 #[val 4 x s r, val 5 x' s' r'] w fun e w' => e = .returned (plW ((false, 0))) ∧ Below w.heap.size w w' := by
  have qa := Lib.hid (fun w' => rMay_any 4 x s r w' (by decide) hx)
  have qb := Lib.hid (fun w' => rMay_any 5 x' s' r' w' (by decide) hy)
  have oa := Lib.hid (fun w' => rObj_any 4 x s r w')
  have ob := Lib.hid (fun w' => rObj_any 5 x' s' r' w')
  rw [ma] at qa
  rw [mb] at qb
  rw [show isObj 4 = false from by decide] at oa
  rw [show isObj 5 = false from by decide] at ob
  unfold val at *
  clear ma mb hx hy
  go_enter Tryd.func20, Tryd.ntmps20
  go_wp2_with fail
  refine (qa.out _).mono ?_; rintro e w1 ⟨rfl, b1⟩
  obtain ⟨hc, hf⟩ := bcell b1
  have B1 := Lib.hid b1
  clear b1
  go_wp2_with fail
  refine (qb.out _).mono ?_; rintro e w2 ⟨rfl, b2⟩
  have B2 := Lib.hid (B1.out.trans (b2.mono B1.out.size))
  clear b2 hc hf
  obtain ⟨hc, hf⟩ := bcell B2.out
  go_wp2_with fail
  refine (oa.out _).mono ?_; rintro e w3 ⟨rfl, b3⟩
  have B3 := Lib.hid (B2.out.trans (b3.mono B2.out.size))
  clear b3 hc hf
  obtain ⟨hc, hf⟩ := bcell B3.out
  go_wp2_with fail
  refine (ob.out _).mono ?_; rintro e w4 ⟨rfl, b4⟩
  have B4 := Lib.hid (B3.out.trans (b4.mono B3.out.size))
  clear b4 hc hf
  obtain ⟨hc, hf⟩ := bcell B4.out
  go_wp2
  go_ret2
  exact ⟨rfl, below_three B4.out⟩

set_option maxHeartbeats 4000000 in
theorem rPlain_5_0 (x : Nat) (s : ByteArray) (r : Int) (x' : Nat) (s' : ByteArray) (r' : Int) (w : World) (hx : x < 18446744073709551616) (hy : x' < 18446744073709551616) (ma : mayV 5 x s r = true) (mb : mayV 0 x' s' r' = true) :
    Calls Tryd.prog 20 #[val 5 x s r, val 0 x' s' r'] w fun e w' => e = .returned (plW ((false, 0))) ∧ Below w.heap.size w w' := by
  have qa := Lib.hid (fun w' => rMay_any 5 x s r w' (by decide) hx)
  have qb := Lib.hid (fun w' => rMay_any 0 x' s' r' w' (by decide) hy)
  have oa := Lib.hid (fun w' => rObj_any 5 x s r w')
  have ob := Lib.hid (fun w' => rObj_any 0 x' s' r' w')
  rw [ma] at qa
  rw [mb] at qb
  rw [show isObj 5 = false from by decide] at oa
  rw [show isObj 0 = false from by decide] at ob
  unfold val at *
  clear ma mb hx hy
  go_enter Tryd.func20, Tryd.ntmps20
  go_wp2_with fail
  refine (qa.out _).mono ?_; rintro e w1 ⟨rfl, b1⟩
  obtain ⟨hc, hf⟩ := bcell b1
  have B1 := Lib.hid b1
  clear b1
  go_wp2_with fail
  refine (qb.out _).mono ?_; rintro e w2 ⟨rfl, b2⟩
  have B2 := Lib.hid (B1.out.trans (b2.mono B1.out.size))
  clear b2 hc hf
  obtain ⟨hc, hf⟩ := bcell B2.out
  go_wp2_with fail
  refine (oa.out _).mono ?_; rintro e w3 ⟨rfl, b3⟩
  have B3 := Lib.hid (B2.out.trans (b3.mono B2.out.size))
  clear b3 hc hf
  obtain ⟨hc, hf⟩ := bcell B3.out
  go_wp2_with fail
  refine (ob.out _).mono ?_; rintro e w4 ⟨rfl, b4⟩
  have B4 := Lib.hid (B3.out.trans (b4.mono B3.out.size))
  clear b4 hc hf
  obtain ⟨hc, hf⟩ := bcell B4.out
  go_wp2
  go_ret2
  exact ⟨rfl, below_three B4.out⟩

set_option maxHeartbeats 4000000 in
theorem rPlain_5_1 (x : Nat) (s : ByteArray) (r : Int) (x' : Nat) (s' : ByteArray) (r' : Int) (w : World) (hx : x < 18446744073709551616) (hy : x' < 18446744073709551616) (ma : mayV 5 x s r = true) (mb : mayV 1 x' s' r' = true) :
    Calls Tryd.prog 20 #[val 5 x s r, val 1 x' s' r'] w fun e w' => e = .returned (plW ((false, 0))) ∧ Below w.heap.size w w' := by
  have qa := Lib.hid (fun w' => rMay_any 5 x s r w' (by decide) hx)
  have qb := Lib.hid (fun w' => rMay_any 1 x' s' r' w' (by decide) hy)
  have oa := Lib.hid (fun w' => rObj_any 5 x s r w')
  have ob := Lib.hid (fun w' => rObj_any 1 x' s' r' w')
  rw [ma] at qa
  rw [mb] at qb
  rw [show isObj 5 = false from by decide] at oa
  rw [show isObj 1 = false from by decide] at ob
  unfold val at *
  clear ma mb hx hy
  go_enter Tryd.func20, Tryd.ntmps20
  go_wp2_with fail
  refine (qa.out _).mono ?_; rintro e w1 ⟨rfl, b1⟩
  obtain ⟨hc, hf⟩ := bcell b1
  have B1 := Lib.hid b1
  clear b1
  go_wp2_with fail
  refine (qb.out _).mono ?_; rintro e w2 ⟨rfl, b2⟩
  have B2 := Lib.hid (B1.out.trans (b2.mono B1.out.size))
  clear b2 hc hf
  obtain ⟨hc, hf⟩ := bcell B2.out
  go_wp2_with fail
  refine (oa.out _).mono ?_; rintro e w3 ⟨rfl, b3⟩
  have B3 := Lib.hid (B2.out.trans (b3.mono B2.out.size))
  clear b3 hc hf
  obtain ⟨hc, hf⟩ := bcell B3.out
  go_wp2_with fail
  refine (ob.out _).mono ?_; rintro e w4 ⟨rfl, b4⟩
  have B4 := Lib.hid (B3.out.trans (b4.mono B3.out.size))
  clear b4 hc hf
  obtain ⟨hc, hf⟩ := bcell B4.out
  go_wp2
  go_ret2
  exact ⟨rfl, below_three B4.out⟩

set_option maxHeartbeats 4000000 in
theorem rPlain_5_3 (x : Nat) (s : ByteArray) (r : Int) (x' : Nat) (s' : ByteArray) (r' : Int) (w : World) (hx : x < 18446744073709551616) (hy : x' < 18446744073709551616) (ma : mayV 5 x s r = true) (mb : mayV 3 x' s' r' = true) :
    Calls Tryd.prog 20 #[val 5 x s r, val 3 x' s' r'] w fun e w' => e = .returned (plW ((false, 0))) ∧ Below w.heap.size w w' := by
  have qa := Lib.hid (fun w' => rMay_any 5 x s r w' (by decide) hx)
  have qb := Lib.hid (fun w' => rMay_any 3 x' s' r' w' (by decide) hy)
  have oa := Lib.hid (fun w' => rObj_any 5 x s r w')
  have ob := Lib.hid (fun w' => rObj_any 3 x' s' r' w')
  rw [ma] at qa
  rw [mb] at qb
  rw [show isObj 5 = false from by decide] at oa
  rw [show isObj 3 = false from by decide] at ob
  unfold val at *
  clear ma mb hx hy
  go_enter Tryd.func20, Tryd.ntmps20
  go_wp2_with fail
  refine (qa.out _).mono ?_; rintro e w1 ⟨rfl, b1⟩
  obtain ⟨hc, hf⟩ := bcell b1
  have B1 := Lib.hid b1
  clear b1
  go_wp2_with fail
  refine (qb.out _).mono ?_; rintro e w2 ⟨rfl, b2⟩
  have B2 := Lib.hid (B1.out.trans (b2.mono B1.out.size))
  clear b2 hc hf
  obtain ⟨hc, hf⟩ := bcell B2.out
  go_wp2_with fail
  refine (oa.out _).mono ?_; rintro e w3 ⟨rfl, b3⟩
  have B3 := Lib.hid (B2.out.trans (b3.mono B2.out.size))
  clear b3 hc hf
  obtain ⟨hc, hf⟩ := bcell B3.out
  go_wp2_with fail
  refine (ob.out _).mono ?_; rintro e w4 ⟨rfl, b4⟩
  have B4 := Lib.hid (B3.out.trans (b4.mono B3.out.size))
  clear b4 hc hf
  obtain ⟨hc, hf⟩ := bcell B4.out
  go_wp2
  go_ret2
  exact ⟨rfl, below_three B4.out⟩

set_option maxHeartbeats 4000000 in
theorem rPlain_5_4 (x : Nat) (s : ByteArray) (r : Int) (x' : Nat) (s' : ByteArray) (r' : Int) (w : World) (hx : x < 18446744073709551616) (hy : x' < 18446744073709551616) (ma : mayV 5 x s r = true) (mb : mayV 4 x' s' r' = true) :
    Calls Tryd.prog 20 #[val 5 x s r, val 4 x' s' r'] w fun e w' => e = .returned (plW ((false, 0))) ∧ Below w.heap.size w w' := by
  have qa := Lib.hid (fun w' => rMay_any 5 x s r w' (by decide) hx)
  have qb := Lib.hid (fun w' => rMay_any 4 x' s' r' w' (by decide) hy)
  have oa := Lib.hid (fun w' => rObj_any 5 x s r w')
  have ob := Lib.hid (fun w' => rObj_any 4 x' s' r' w')
  rw [ma] at qa
  rw [mb] at qb
  rw [show isObj 5 = false from by decide] at oa
  rw [show isObj 4 = false from by decide] at ob
  unfold val at *
  clear ma mb hx hy
  go_enter Tryd.func20, Tryd.ntmps20
  go_wp2_with fail
  refine (qa.out _).mono ?_; rintro e w1 ⟨rfl, b1⟩
  obtain ⟨hc, hf⟩ := bcell b1
  have B1 := Lib.hid b1
  clear b1
  go_wp2_with fail
  refine (qb.out _).mono ?_; rintro e w2 ⟨rfl, b2⟩
  have B2 := Lib.hid (B1.out.trans (b2.mono B1.out.size))
  clear b2 hc hf
  obtain ⟨hc, hf⟩ := bcell B2.out
  go_wp2_with fail
  refine (oa.out _).mono ?_; rintro e w3 ⟨rfl, b3⟩
  have B3 := Lib.hid (B2.out.trans (b3.mono B2.out.size))
  clear b3 hc hf
  obtain ⟨hc, hf⟩ := bcell B3.out
  go_wp2_with fail
  refine (ob.out _).mono ?_; rintro e w4 ⟨rfl, b4⟩
  have B4 := Lib.hid (B3.out.trans (b4.mono B3.out.size))
  clear b4 hc hf
  obtain ⟨hc, hf⟩ := bcell B4.out
  go_wp2
  go_ret2
  exact ⟨rfl, below_three B4.out⟩


theorem out_six {w w1 : World} {a b : Nat} {v0 v1 v2 v3 v4 : Option Value}
    (h : w1.cell? ⟨a, 1, none⟩ = v0 ∧ w1.cell? ⟨b, 0, none⟩ = v1 ∧ w1.cell? ⟨b, 1, none⟩ = v2 ∧ w1.cell? ⟨b, 2, none⟩ = v3 ∧ w1.cell? ⟨b, 3, none⟩ = v4 ∧ a < w1.heap.size ∧ b < w1.heap.size ∧ Below w.heap.size w w1) : Below w.heap.size w w1 := h.2.2.2.2.2.2.2
theorem keep_six {w w1 w2 : World} {a b : Nat} {v0 v1 v2 v3 v4 : Option Value}
    (h : w1.cell? ⟨a, 1, none⟩ = v0 ∧ w1.cell? ⟨b, 0, none⟩ = v1 ∧ w1.cell? ⟨b, 1, none⟩ = v2 ∧ w1.cell? ⟨b, 2, none⟩ = v3 ∧ w1.cell? ⟨b, 3, none⟩ = v4 ∧ a < w1.heap.size ∧ b < w1.heap.size ∧ Below w.heap.size w w1) (g : Below w1.heap.size w1 w2) :
    w2.cell? ⟨a, 1, none⟩ = v0 ∧ w2.cell? ⟨b, 0, none⟩ = v1 ∧ w2.cell? ⟨b, 1, none⟩ = v2 ∧ w2.cell? ⟨b, 2, none⟩ = v3 ∧ w2.cell? ⟨b, 3, none⟩ = v4 ∧ a < w2.heap.size ∧ b < w2.heap.size ∧ Below w.heap.size w w2 := by
  obtain ⟨h0, h1, h2, h3, h4, h5, h6, h7⟩ := h
  have hs := g.size
  exact ⟨(g.cell (p := ⟨a, 1, none⟩) h5).trans h0, (g.cell (p := ⟨b, 0, none⟩) h6).trans h1, (g.cell (p := ⟨b, 1, none⟩) h6).trans h2, (g.cell (p := ⟨b, 2, none⟩) h6).trans h3, (g.cell (p := ⟨b, 3, none⟩) h6).trans h4, by omega, by omega, h7.trans (g.mono h7.size)⟩

set_option maxHeartbeats 4000000 in
theorem rPlain_2_0 (x : Nat) (s : ByteArray) (r : Int) (x' : Nat) (s' : ByteArray) (r' : Int) (w : World) (hx : x < 18446744073709551616) (hy : x' < 18446744073709551616) (ma : mayV 2 x s r = true) (mb : mayV 0 x' s' r' = true) :
    Calls Tryd.prog 20 #[val 2 x s r, val 0 x' s' r'] w fun e w' => e = .returned (plW ((false, 0))) ∧ Below w.heap.size w w' := by
  have qa := Lib.hid (fun w' => rMay_any 2 x s r w' (by decide) hx)
  have qb := Lib.hid (fun w' => rMay_any 0 x' s' r' w' (by decide) hy)
  have oa := Lib.hid (fun w' => rObj_any 2 x s r w')
  have ob := Lib.hid (fun w' => rObj_any 0 x' s' r' w')
  rw [ma] at qa
  rw [mb] at qb
  rw [show isObj 2 = false from by decide] at oa
  rw [show isObj 0 = false from by decide] at ob
  have qp := Lib.hid (fun w' => rPlain_3_0 x ByteArray.empty 0 x' s' r' w' hx hy (may_bool ma) mb)
  have qn := Lib.hid (fun w' => rNum_any x w')
  unfold val at *
  clear ma mb hx hy
  go_enter Tryd.func20, Tryd.ntmps20
  go_wp2_with fail
  refine (qa.out _).mono ?_; rintro e w1 ⟨rfl, b1⟩
  obtain ⟨hc, hf⟩ := bcell b1
  have B1 := Lib.hid b1
  clear b1
  go_wp2_with fail
  refine (qb.out _).mono ?_; rintro e w2 ⟨rfl, b2⟩
  have B2 := Lib.hid (B1.out.trans (b2.mono B1.out.size))
  clear b2 hc hf
  obtain ⟨hc, hf⟩ := bcell B2.out
  go_wp2_with fail
  refine (oa.out _).mono ?_; rintro e w3 ⟨rfl, b3⟩
  have B3 := Lib.hid (B2.out.trans (b3.mono B2.out.size))
  clear b3 hc hf
  obtain ⟨hc, hf⟩ := bcell B3.out
  go_wp2_with fail
  refine (ob.out _).mono ?_; rintro e w4 ⟨rfl, b4⟩
  have B4 := Lib.hid (B3.out.trans (b4.mono B3.out.size))
  clear b4 hc hf
  obtain ⟨hc, hf⟩ := bcell B4.out
  go_wp2_with fail
  have hz : w.heap.size + 1 < w4.heap.size := by have := B4.out.size; simp at this; omega
  have i0 : w4.cell? ⟨w.heap.size, 1, none⟩ = some (.float .f64 x) := (hc (w.heap.size) 1 (by simp <;> omega)).trans (first_cell _ _ _ _ 1)
  have j0 : w4.cell? ⟨w.heap.size + 1, 0, none⟩ = some (.int .u8 0) := (hc (w.heap.size + 1) 0 (by simp <;> omega)).trans (second_cell _ _ _ _ 0)
  have j1 : w4.cell? ⟨w.heap.size + 1, 1, none⟩ = some (.float .f64 x') := (hc (w.heap.size + 1) 1 (by simp <;> omega)).trans (second_cell _ _ _ _ 1)
  have j2 : w4.cell? ⟨w.heap.size + 1, 2, none⟩ = some (.string s') := (hc (w.heap.size + 1) 2 (by simp <;> omega)).trans (second_cell _ _ _ _ 2)
  have j3 : w4.cell? ⟨w.heap.size + 1, 3, none⟩ = some (.int .i64 r') := (hc (w.heap.size + 1) 3 (by simp <;> omega)).trans (second_cell _ _ _ _ 3)
  clear hc hf
  have hS : w4.cell? ⟨w.heap.size, 1, none⟩ = some (.float .f64 x) ∧ w4.cell? ⟨w.heap.size + 1, 0, none⟩ = some (.int .u8 0) ∧ w4.cell? ⟨w.heap.size + 1, 1, none⟩ = some (.float .f64 x') ∧ w4.cell? ⟨w.heap.size + 1, 2, none⟩ = some (.string s') ∧ w4.cell? ⟨w.heap.size + 1, 3, none⟩ = some (.int .i64 r') ∧ w.heap.size < w4.heap.size ∧ w.heap.size + 1 < w4.heap.size ∧ Below w.heap.size w w4 := ⟨i0, j0, j1, j2, j3, by omega, by omega, below_three B4.out⟩
  clear i0 j0 j1 j2 j3
  go_region_held3 (fun w' => w'.cell? ⟨w.heap.size, 1, none⟩ = some (.float .f64 x) ∧ w'.cell? ⟨w.heap.size + 1, 0, none⟩ = some (.int .u8 0) ∧ w'.cell? ⟨w.heap.size + 1, 1, none⟩ = some (.float .f64 x') ∧ w'.cell? ⟨w.heap.size + 1, 2, none⟩ = some (.string s') ∧ w'.cell? ⟨w.heap.size + 1, 3, none⟩ = some (.int .i64 r') ∧ w.heap.size < w'.heap.size ∧ w.heap.size + 1 < w'.heap.size ∧ Below w.heap.size w w') (first | exact hS | exact keep_six (by assumption) (by assumption) | (exact keep_six (by assumption) (Below.drew (Below.refl _ _)))) (first | (go_at_call 83; refine (qn.out _).mono ?_; rintro e w' ⟨rfl, b⟩) | (go_at_call 20; refine (qp.out _).mono ?_; rintro e w' ⟨rfl, b⟩))
  all_goals
    go_wp2
    go_ret2
    exact ⟨rfl, out_six (by assumption)⟩

set_option maxHeartbeats 4000000 in
theorem rPlain_2_1 (x : Nat) (s : ByteArray) (r : Int) (x' : Nat) (s' : ByteArray) (r' : Int) (w : World) (hx : x < 18446744073709551616) (hy : x' < 18446744073709551616) (ma : mayV 2 x s r = true) (mb : mayV 1 x' s' r' = true) :
    Calls Tryd.prog 20 #[val 2 x s r, val 1 x' s' r'] w fun e w' => e = .returned (plW ((false, 0))) ∧ Below w.heap.size w w' := by
  have qa := Lib.hid (fun w' => rMay_any 2 x s r w' (by decide) hx)
  have qb := Lib.hid (fun w' => rMay_any 1 x' s' r' w' (by decide) hy)
  have oa := Lib.hid (fun w' => rObj_any 2 x s r w')
  have ob := Lib.hid (fun w' => rObj_any 1 x' s' r' w')
  rw [ma] at qa
  rw [mb] at qb
  rw [show isObj 2 = false from by decide] at oa
  rw [show isObj 1 = false from by decide] at ob
  have qp := Lib.hid (fun w' => rPlain_3_1 x ByteArray.empty 0 x' s' r' w' hx hy (may_bool ma) mb)
  have qn := Lib.hid (fun w' => rNum_any x w')
  unfold val at *
  clear ma mb hx hy
  go_enter Tryd.func20, Tryd.ntmps20
  go_wp2_with fail
  refine (qa.out _).mono ?_; rintro e w1 ⟨rfl, b1⟩
  obtain ⟨hc, hf⟩ := bcell b1
  have B1 := Lib.hid b1
  clear b1
  go_wp2_with fail
  refine (qb.out _).mono ?_; rintro e w2 ⟨rfl, b2⟩
  have B2 := Lib.hid (B1.out.trans (b2.mono B1.out.size))
  clear b2 hc hf
  obtain ⟨hc, hf⟩ := bcell B2.out
  go_wp2_with fail
  refine (oa.out _).mono ?_; rintro e w3 ⟨rfl, b3⟩
  have B3 := Lib.hid (B2.out.trans (b3.mono B2.out.size))
  clear b3 hc hf
  obtain ⟨hc, hf⟩ := bcell B3.out
  go_wp2_with fail
  refine (ob.out _).mono ?_; rintro e w4 ⟨rfl, b4⟩
  have B4 := Lib.hid (B3.out.trans (b4.mono B3.out.size))
  clear b4 hc hf
  obtain ⟨hc, hf⟩ := bcell B4.out
  go_wp2_with fail
  have hz : w.heap.size + 1 < w4.heap.size := by have := B4.out.size; simp at this; omega
  have i0 : w4.cell? ⟨w.heap.size, 1, none⟩ = some (.float .f64 x) := (hc (w.heap.size) 1 (by simp <;> omega)).trans (first_cell _ _ _ _ 1)
  have j0 : w4.cell? ⟨w.heap.size + 1, 0, none⟩ = some (.int .u8 1) := (hc (w.heap.size + 1) 0 (by simp <;> omega)).trans (second_cell _ _ _ _ 0)
  have j1 : w4.cell? ⟨w.heap.size + 1, 1, none⟩ = some (.float .f64 x') := (hc (w.heap.size + 1) 1 (by simp <;> omega)).trans (second_cell _ _ _ _ 1)
  have j2 : w4.cell? ⟨w.heap.size + 1, 2, none⟩ = some (.string s') := (hc (w.heap.size + 1) 2 (by simp <;> omega)).trans (second_cell _ _ _ _ 2)
  have j3 : w4.cell? ⟨w.heap.size + 1, 3, none⟩ = some (.int .i64 r') := (hc (w.heap.size + 1) 3 (by simp <;> omega)).trans (second_cell _ _ _ _ 3)
  clear hc hf
  have hS : w4.cell? ⟨w.heap.size, 1, none⟩ = some (.float .f64 x) ∧ w4.cell? ⟨w.heap.size + 1, 0, none⟩ = some (.int .u8 1) ∧ w4.cell? ⟨w.heap.size + 1, 1, none⟩ = some (.float .f64 x') ∧ w4.cell? ⟨w.heap.size + 1, 2, none⟩ = some (.string s') ∧ w4.cell? ⟨w.heap.size + 1, 3, none⟩ = some (.int .i64 r') ∧ w.heap.size < w4.heap.size ∧ w.heap.size + 1 < w4.heap.size ∧ Below w.heap.size w w4 := ⟨i0, j0, j1, j2, j3, by omega, by omega, below_three B4.out⟩
  clear i0 j0 j1 j2 j3
  go_region_held3 (fun w' => w'.cell? ⟨w.heap.size, 1, none⟩ = some (.float .f64 x) ∧ w'.cell? ⟨w.heap.size + 1, 0, none⟩ = some (.int .u8 1) ∧ w'.cell? ⟨w.heap.size + 1, 1, none⟩ = some (.float .f64 x') ∧ w'.cell? ⟨w.heap.size + 1, 2, none⟩ = some (.string s') ∧ w'.cell? ⟨w.heap.size + 1, 3, none⟩ = some (.int .i64 r') ∧ w.heap.size < w'.heap.size ∧ w.heap.size + 1 < w'.heap.size ∧ Below w.heap.size w w') (first | exact hS | exact keep_six (by assumption) (by assumption) | (exact keep_six (by assumption) (Below.drew (Below.refl _ _)))) (first | (go_at_call 83; refine (qn.out _).mono ?_; rintro e w' ⟨rfl, b⟩) | (go_at_call 20; refine (qp.out _).mono ?_; rintro e w' ⟨rfl, b⟩))
  all_goals
    go_wp2
    go_ret2
    exact ⟨rfl, out_six (by assumption)⟩

set_option maxHeartbeats 4000000 in
theorem rPlain_2_3 (x : Nat) (s : ByteArray) (r : Int) (x' : Nat) (s' : ByteArray) (r' : Int) (w : World) (hx : x < 18446744073709551616) (hy : x' < 18446744073709551616) (ma : mayV 2 x s r = true) (mb : mayV 3 x' s' r' = true) :
    Calls Tryd.prog 20 #[val 2 x s r, val 3 x' s' r'] w fun e w' => e = .returned (plW ((strictV 3 x ByteArray.empty 0 3 x' s' r', 0))) ∧ Below w.heap.size w w' := by
  have qa := Lib.hid (fun w' => rMay_any 2 x s r w' (by decide) hx)
  have qb := Lib.hid (fun w' => rMay_any 3 x' s' r' w' (by decide) hy)
  have oa := Lib.hid (fun w' => rObj_any 2 x s r w')
  have ob := Lib.hid (fun w' => rObj_any 3 x' s' r' w')
  rw [ma] at qa
  rw [mb] at qb
  rw [show isObj 2 = false from by decide] at oa
  rw [show isObj 3 = false from by decide] at ob
  have qp := Lib.hid (fun w' => rPlain_3_3 x ByteArray.empty 0 x' s' r' w' hx hy (may_bool ma) mb)
  have qn := Lib.hid (fun w' => rNum_any x w')
  unfold val at *
  generalize strictV 3 x ByteArray.empty 0 3 x' s' r' = V at *
  clear ma mb hx hy
  go_enter Tryd.func20, Tryd.ntmps20
  go_wp2_with fail
  refine (qa.out _).mono ?_; rintro e w1 ⟨rfl, b1⟩
  obtain ⟨hc, hf⟩ := bcell b1
  have B1 := Lib.hid b1
  clear b1
  go_wp2_with fail
  refine (qb.out _).mono ?_; rintro e w2 ⟨rfl, b2⟩
  have B2 := Lib.hid (B1.out.trans (b2.mono B1.out.size))
  clear b2 hc hf
  obtain ⟨hc, hf⟩ := bcell B2.out
  go_wp2_with fail
  refine (oa.out _).mono ?_; rintro e w3 ⟨rfl, b3⟩
  have B3 := Lib.hid (B2.out.trans (b3.mono B2.out.size))
  clear b3 hc hf
  obtain ⟨hc, hf⟩ := bcell B3.out
  go_wp2_with fail
  refine (ob.out _).mono ?_; rintro e w4 ⟨rfl, b4⟩
  have B4 := Lib.hid (B3.out.trans (b4.mono B3.out.size))
  clear b4 hc hf
  obtain ⟨hc, hf⟩ := bcell B4.out
  go_wp2_with fail
  have hz : w.heap.size + 1 < w4.heap.size := by have := B4.out.size; simp at this; omega
  have i0 : w4.cell? ⟨w.heap.size, 1, none⟩ = some (.float .f64 x) := (hc (w.heap.size) 1 (by simp <;> omega)).trans (first_cell _ _ _ _ 1)
  have j0 : w4.cell? ⟨w.heap.size + 1, 0, none⟩ = some (.int .u8 3) := (hc (w.heap.size + 1) 0 (by simp <;> omega)).trans (second_cell _ _ _ _ 0)
  have j1 : w4.cell? ⟨w.heap.size + 1, 1, none⟩ = some (.float .f64 x') := (hc (w.heap.size + 1) 1 (by simp <;> omega)).trans (second_cell _ _ _ _ 1)
  have j2 : w4.cell? ⟨w.heap.size + 1, 2, none⟩ = some (.string s') := (hc (w.heap.size + 1) 2 (by simp <;> omega)).trans (second_cell _ _ _ _ 2)
  have j3 : w4.cell? ⟨w.heap.size + 1, 3, none⟩ = some (.int .i64 r') := (hc (w.heap.size + 1) 3 (by simp <;> omega)).trans (second_cell _ _ _ _ 3)
  clear hc hf
  have hS : w4.cell? ⟨w.heap.size, 1, none⟩ = some (.float .f64 x) ∧ w4.cell? ⟨w.heap.size + 1, 0, none⟩ = some (.int .u8 3) ∧ w4.cell? ⟨w.heap.size + 1, 1, none⟩ = some (.float .f64 x') ∧ w4.cell? ⟨w.heap.size + 1, 2, none⟩ = some (.string s') ∧ w4.cell? ⟨w.heap.size + 1, 3, none⟩ = some (.int .i64 r') ∧ w.heap.size < w4.heap.size ∧ w.heap.size + 1 < w4.heap.size ∧ Below w.heap.size w w4 := ⟨i0, j0, j1, j2, j3, by omega, by omega, below_three B4.out⟩
  clear i0 j0 j1 j2 j3
  go_region_held3 (fun w' => w'.cell? ⟨w.heap.size, 1, none⟩ = some (.float .f64 x) ∧ w'.cell? ⟨w.heap.size + 1, 0, none⟩ = some (.int .u8 3) ∧ w'.cell? ⟨w.heap.size + 1, 1, none⟩ = some (.float .f64 x') ∧ w'.cell? ⟨w.heap.size + 1, 2, none⟩ = some (.string s') ∧ w'.cell? ⟨w.heap.size + 1, 3, none⟩ = some (.int .i64 r') ∧ w.heap.size < w'.heap.size ∧ w.heap.size + 1 < w'.heap.size ∧ Below w.heap.size w w') (first | exact hS | exact keep_six (by assumption) (by assumption) | (exact keep_six (by assumption) (Below.drew (Below.refl _ _)))) (first | (go_at_call 83; refine (qn.out _).mono ?_; rintro e w' ⟨rfl, b⟩) | (go_at_call 20; refine (qp.out _).mono ?_; rintro e w' ⟨rfl, b⟩))
  all_goals
    go_wp2
    go_ret2
    exact ⟨rfl, out_six (by assumption)⟩

set_option maxHeartbeats 4000000 in
theorem rPlain_2_4 (x : Nat) (s : ByteArray) (r : Int) (x' : Nat) (s' : ByteArray) (r' : Int) (w : World) (hx : x < 18446744073709551616) (hy : x' < 18446744073709551616) (ma : mayV 2 x s r = true) (mb : mayV 4 x' s' r' = true) :
    Calls Tryd.prog 20 #[val 2 x s r, val 4 x' s' r'] w fun e w' => e = .returned (plW (eqRead x s')) ∧ Below w.heap.size w w' := by
  have qa := Lib.hid (fun w' => rMay_any 2 x s r w' (by decide) hx)
  have qb := Lib.hid (fun w' => rMay_any 4 x' s' r' w' (by decide) hy)
  have oa := Lib.hid (fun w' => rObj_any 2 x s r w')
  have ob := Lib.hid (fun w' => rObj_any 4 x' s' r' w')
  rw [ma] at qa
  rw [mb] at qb
  rw [show isObj 2 = false from by decide] at oa
  rw [show isObj 4 = false from by decide] at ob
  have qp := Lib.hid (fun w' => rPlain_3_4 x ByteArray.empty 0 x' s' r' w' hx hy (may_bool ma) mb)
  have qn := Lib.hid (fun w' => rNum_any x w')
  unfold val at *
  generalize eqRead x s' = p at *
  clear ma mb hx hy
  go_enter Tryd.func20, Tryd.ntmps20
  go_wp2_with fail
  refine (qa.out _).mono ?_; rintro e w1 ⟨rfl, b1⟩
  obtain ⟨hc, hf⟩ := bcell b1
  have B1 := Lib.hid b1
  clear b1
  go_wp2_with fail
  refine (qb.out _).mono ?_; rintro e w2 ⟨rfl, b2⟩
  have B2 := Lib.hid (B1.out.trans (b2.mono B1.out.size))
  clear b2 hc hf
  obtain ⟨hc, hf⟩ := bcell B2.out
  go_wp2_with fail
  refine (oa.out _).mono ?_; rintro e w3 ⟨rfl, b3⟩
  have B3 := Lib.hid (B2.out.trans (b3.mono B2.out.size))
  clear b3 hc hf
  obtain ⟨hc, hf⟩ := bcell B3.out
  go_wp2_with fail
  refine (ob.out _).mono ?_; rintro e w4 ⟨rfl, b4⟩
  have B4 := Lib.hid (B3.out.trans (b4.mono B3.out.size))
  clear b4 hc hf
  obtain ⟨hc, hf⟩ := bcell B4.out
  go_wp2_with fail
  have hz : w.heap.size + 1 < w4.heap.size := by have := B4.out.size; simp at this; omega
  have i0 : w4.cell? ⟨w.heap.size, 1, none⟩ = some (.float .f64 x) := (hc (w.heap.size) 1 (by simp <;> omega)).trans (first_cell _ _ _ _ 1)
  have j0 : w4.cell? ⟨w.heap.size + 1, 0, none⟩ = some (.int .u8 4) := (hc (w.heap.size + 1) 0 (by simp <;> omega)).trans (second_cell _ _ _ _ 0)
  have j1 : w4.cell? ⟨w.heap.size + 1, 1, none⟩ = some (.float .f64 x') := (hc (w.heap.size + 1) 1 (by simp <;> omega)).trans (second_cell _ _ _ _ 1)
  have j2 : w4.cell? ⟨w.heap.size + 1, 2, none⟩ = some (.string s') := (hc (w.heap.size + 1) 2 (by simp <;> omega)).trans (second_cell _ _ _ _ 2)
  have j3 : w4.cell? ⟨w.heap.size + 1, 3, none⟩ = some (.int .i64 r') := (hc (w.heap.size + 1) 3 (by simp <;> omega)).trans (second_cell _ _ _ _ 3)
  clear hc hf
  have hS : w4.cell? ⟨w.heap.size, 1, none⟩ = some (.float .f64 x) ∧ w4.cell? ⟨w.heap.size + 1, 0, none⟩ = some (.int .u8 4) ∧ w4.cell? ⟨w.heap.size + 1, 1, none⟩ = some (.float .f64 x') ∧ w4.cell? ⟨w.heap.size + 1, 2, none⟩ = some (.string s') ∧ w4.cell? ⟨w.heap.size + 1, 3, none⟩ = some (.int .i64 r') ∧ w.heap.size < w4.heap.size ∧ w.heap.size + 1 < w4.heap.size ∧ Below w.heap.size w w4 := ⟨i0, j0, j1, j2, j3, by omega, by omega, below_three B4.out⟩
  clear i0 j0 j1 j2 j3
  go_region_held3 (fun w' => w'.cell? ⟨w.heap.size, 1, none⟩ = some (.float .f64 x) ∧ w'.cell? ⟨w.heap.size + 1, 0, none⟩ = some (.int .u8 4) ∧ w'.cell? ⟨w.heap.size + 1, 1, none⟩ = some (.float .f64 x') ∧ w'.cell? ⟨w.heap.size + 1, 2, none⟩ = some (.string s') ∧ w'.cell? ⟨w.heap.size + 1, 3, none⟩ = some (.int .i64 r') ∧ w.heap.size < w'.heap.size ∧ w.heap.size + 1 < w'.heap.size ∧ Below w.heap.size w w') (first | exact hS | exact keep_six (by assumption) (by assumption) | (exact keep_six (by assumption) (Below.drew (Below.refl _ _)))) (first | (go_at_call 83; refine (qn.out _).mono ?_; rintro e w' ⟨rfl, b⟩) | (go_at_call 20; refine (qp.out _).mono ?_; rintro e w' ⟨rfl, b⟩))
  all_goals
    go_wp2
    go_ret2
    exact ⟨rfl, out_six (by assumption)⟩

set_option maxHeartbeats 4000000 in
theorem rPlain_2_5 (x : Nat) (s : ByteArray) (r : Int) (x' : Nat) (s' : ByteArray) (r' : Int) (w : World) (hx : x < 18446744073709551616) (hy : x' < 18446744073709551616) (ma : mayV 2 x s r = true) (mb : mayV 5 x' s' r' = true) :
    Calls Tryd.prog 20 #[val 2 x s r, val 5 x' s' r'] w fun e w' => e = .returned (plW ((false, 0))) ∧ Below w.heap.size w w' := by
  have qa := Lib.hid (fun w' => rMay_any 2 x s r w' (by decide) hx)
  have qb := Lib.hid (fun w' => rMay_any 5 x' s' r' w' (by decide) hy)
  have oa := Lib.hid (fun w' => rObj_any 2 x s r w')
  have ob := Lib.hid (fun w' => rObj_any 5 x' s' r' w')
  rw [ma] at qa
  rw [mb] at qb
  rw [show isObj 2 = false from by decide] at oa
  rw [show isObj 5 = false from by decide] at ob
  have qp := Lib.hid (fun w' => rPlain_3_5 x ByteArray.empty 0 x' s' r' w' hx hy (may_bool ma) mb)
  have qn := Lib.hid (fun w' => rNum_any x w')
  unfold val at *
  clear ma mb hx hy
  go_enter Tryd.func20, Tryd.ntmps20
  go_wp2_with fail
  refine (qa.out _).mono ?_; rintro e w1 ⟨rfl, b1⟩
  obtain ⟨hc, hf⟩ := bcell b1
  have B1 := Lib.hid b1
  clear b1
  go_wp2_with fail
  refine (qb.out _).mono ?_; rintro e w2 ⟨rfl, b2⟩
  have B2 := Lib.hid (B1.out.trans (b2.mono B1.out.size))
  clear b2 hc hf
  obtain ⟨hc, hf⟩ := bcell B2.out
  go_wp2_with fail
  refine (oa.out _).mono ?_; rintro e w3 ⟨rfl, b3⟩
  have B3 := Lib.hid (B2.out.trans (b3.mono B2.out.size))
  clear b3 hc hf
  obtain ⟨hc, hf⟩ := bcell B3.out
  go_wp2_with fail
  refine (ob.out _).mono ?_; rintro e w4 ⟨rfl, b4⟩
  have B4 := Lib.hid (B3.out.trans (b4.mono B3.out.size))
  clear b4 hc hf
  obtain ⟨hc, hf⟩ := bcell B4.out
  go_wp2_with fail
  have hz : w.heap.size + 1 < w4.heap.size := by have := B4.out.size; simp at this; omega
  have i0 : w4.cell? ⟨w.heap.size, 1, none⟩ = some (.float .f64 x) := (hc (w.heap.size) 1 (by simp <;> omega)).trans (first_cell _ _ _ _ 1)
  have j0 : w4.cell? ⟨w.heap.size + 1, 0, none⟩ = some (.int .u8 5) := (hc (w.heap.size + 1) 0 (by simp <;> omega)).trans (second_cell _ _ _ _ 0)
  have j1 : w4.cell? ⟨w.heap.size + 1, 1, none⟩ = some (.float .f64 x') := (hc (w.heap.size + 1) 1 (by simp <;> omega)).trans (second_cell _ _ _ _ 1)
  have j2 : w4.cell? ⟨w.heap.size + 1, 2, none⟩ = some (.string s') := (hc (w.heap.size + 1) 2 (by simp <;> omega)).trans (second_cell _ _ _ _ 2)
  have j3 : w4.cell? ⟨w.heap.size + 1, 3, none⟩ = some (.int .i64 r') := (hc (w.heap.size + 1) 3 (by simp <;> omega)).trans (second_cell _ _ _ _ 3)
  clear hc hf
  have hS : w4.cell? ⟨w.heap.size, 1, none⟩ = some (.float .f64 x) ∧ w4.cell? ⟨w.heap.size + 1, 0, none⟩ = some (.int .u8 5) ∧ w4.cell? ⟨w.heap.size + 1, 1, none⟩ = some (.float .f64 x') ∧ w4.cell? ⟨w.heap.size + 1, 2, none⟩ = some (.string s') ∧ w4.cell? ⟨w.heap.size + 1, 3, none⟩ = some (.int .i64 r') ∧ w.heap.size < w4.heap.size ∧ w.heap.size + 1 < w4.heap.size ∧ Below w.heap.size w w4 := ⟨i0, j0, j1, j2, j3, by omega, by omega, below_three B4.out⟩
  clear i0 j0 j1 j2 j3
  go_region_held3 (fun w' => w'.cell? ⟨w.heap.size, 1, none⟩ = some (.float .f64 x) ∧ w'.cell? ⟨w.heap.size + 1, 0, none⟩ = some (.int .u8 5) ∧ w'.cell? ⟨w.heap.size + 1, 1, none⟩ = some (.float .f64 x') ∧ w'.cell? ⟨w.heap.size + 1, 2, none⟩ = some (.string s') ∧ w'.cell? ⟨w.heap.size + 1, 3, none⟩ = some (.int .i64 r') ∧ w.heap.size < w'.heap.size ∧ w.heap.size + 1 < w'.heap.size ∧ Below w.heap.size w w') (first | exact hS | exact keep_six (by assumption) (by assumption) | (exact keep_six (by assumption) (Below.drew (Below.refl _ _)))) (first | (go_at_call 83; refine (qn.out _).mono ?_; rintro e w' ⟨rfl, b⟩) | (go_at_call 20; refine (qp.out _).mono ?_; rintro e w' ⟨rfl, b⟩))
  all_goals
    go_wp2
    go_ret2
    exact ⟨rfl, out_six (by assumption)⟩

set_option maxHeartbeats 4000000 in
theorem rPlain_0_2 (x : Nat) (s : ByteArray) (r : Int) (x' : Nat) (s' : ByteArray) (r' : Int) (w : World) (hx : x < 18446744073709551616) (hy : x' < 18446744073709551616) (ma : mayV 0 x s r = true) (mb : mayV 2 x' s' r' = true) :
    Calls Tryd.prog 20 #[val 0 x s r, val 2 x' s' r'] w fun e w' => e = .returned (plW ((false, 0))) ∧ Below w.heap.size w w' := by
  have qa := Lib.hid (fun w' => rMay_any 0 x s r w' (by decide) hx)
  have qb := Lib.hid (fun w' => rMay_any 2 x' s' r' w' (by decide) hy)
  have oa := Lib.hid (fun w' => rObj_any 0 x s r w')
  have ob := Lib.hid (fun w' => rObj_any 2 x' s' r' w')
  rw [ma] at qa
  rw [mb] at qb
  rw [show isObj 0 = false from by decide] at oa
  rw [show isObj 2 = false from by decide] at ob
  have qp := Lib.hid (fun w' => rPlain_0_3 x s r x' ByteArray.empty 0 w' hx hy ma (may_bool mb))
  have qn := Lib.hid (fun w' => rNum_any x' w')
  unfold val at *
  clear ma mb hx hy
  go_enter Tryd.func20, Tryd.ntmps20
  go_wp2_with fail
  refine (qa.out _).mono ?_; rintro e w1 ⟨rfl, b1⟩
  obtain ⟨hc, hf⟩ := bcell b1
  have B1 := Lib.hid b1
  clear b1
  go_wp2_with fail
  refine (qb.out _).mono ?_; rintro e w2 ⟨rfl, b2⟩
  have B2 := Lib.hid (B1.out.trans (b2.mono B1.out.size))
  clear b2 hc hf
  obtain ⟨hc, hf⟩ := bcell B2.out
  go_wp2_with fail
  refine (oa.out _).mono ?_; rintro e w3 ⟨rfl, b3⟩
  have B3 := Lib.hid (B2.out.trans (b3.mono B2.out.size))
  clear b3 hc hf
  obtain ⟨hc, hf⟩ := bcell B3.out
  go_wp2_with fail
  refine (ob.out _).mono ?_; rintro e w4 ⟨rfl, b4⟩
  have B4 := Lib.hid (B3.out.trans (b4.mono B3.out.size))
  clear b4 hc hf
  obtain ⟨hc, hf⟩ := bcell B4.out
  go_wp2_with fail
  have hz : w.heap.size + 1 < w4.heap.size := by have := B4.out.size; simp at this; omega
  have i0 : w4.cell? ⟨w.heap.size + 1, 1, none⟩ = some (.float .f64 x') := (hc (w.heap.size + 1) 1 (by simp <;> omega)).trans (second_cell _ _ _ _ 1)
  have j0 : w4.cell? ⟨w.heap.size, 0, none⟩ = some (.int .u8 0) := (hc (w.heap.size) 0 (by simp <;> omega)).trans (first_cell _ _ _ _ 0)
  have j1 : w4.cell? ⟨w.heap.size, 1, none⟩ = some (.float .f64 x) := (hc (w.heap.size) 1 (by simp <;> omega)).trans (first_cell _ _ _ _ 1)
  have j2 : w4.cell? ⟨w.heap.size, 2, none⟩ = some (.string s) := (hc (w.heap.size) 2 (by simp <;> omega)).trans (first_cell _ _ _ _ 2)
  have j3 : w4.cell? ⟨w.heap.size, 3, none⟩ = some (.int .i64 r) := (hc (w.heap.size) 3 (by simp <;> omega)).trans (first_cell _ _ _ _ 3)
  clear hc hf
  have hS : w4.cell? ⟨w.heap.size + 1, 1, none⟩ = some (.float .f64 x') ∧ w4.cell? ⟨w.heap.size, 0, none⟩ = some (.int .u8 0) ∧ w4.cell? ⟨w.heap.size, 1, none⟩ = some (.float .f64 x) ∧ w4.cell? ⟨w.heap.size, 2, none⟩ = some (.string s) ∧ w4.cell? ⟨w.heap.size, 3, none⟩ = some (.int .i64 r) ∧ w.heap.size + 1 < w4.heap.size ∧ w.heap.size < w4.heap.size ∧ Below w.heap.size w w4 := ⟨i0, j0, j1, j2, j3, by omega, by omega, below_three B4.out⟩
  clear i0 j0 j1 j2 j3
  go_region_held3 (fun w' => w'.cell? ⟨w.heap.size + 1, 1, none⟩ = some (.float .f64 x') ∧ w'.cell? ⟨w.heap.size, 0, none⟩ = some (.int .u8 0) ∧ w'.cell? ⟨w.heap.size, 1, none⟩ = some (.float .f64 x) ∧ w'.cell? ⟨w.heap.size, 2, none⟩ = some (.string s) ∧ w'.cell? ⟨w.heap.size, 3, none⟩ = some (.int .i64 r) ∧ w.heap.size + 1 < w'.heap.size ∧ w.heap.size < w'.heap.size ∧ Below w.heap.size w w') (first | exact hS | exact keep_six (by assumption) (by assumption) | (exact keep_six (by assumption) (Below.drew (Below.refl _ _)))) (first | (go_at_call 83; refine (qn.out _).mono ?_; rintro e w' ⟨rfl, b⟩) | (go_at_call 20; refine (qp.out _).mono ?_; rintro e w' ⟨rfl, b⟩))
  all_goals
    go_wp2
    go_ret2
    exact ⟨rfl, out_six (by assumption)⟩

set_option maxHeartbeats 4000000 in
theorem rPlain_1_2 (x : Nat) (s : ByteArray) (r : Int) (x' : Nat) (s' : ByteArray) (r' : Int) (w : World) (hx : x < 18446744073709551616) (hy : x' < 18446744073709551616) (ma : mayV 1 x s r = true) (mb : mayV 2 x' s' r' = true) :
    Calls Tryd.prog 20 #[val 1 x s r, val 2 x' s' r'] w fun e w' => e = .returned (plW ((false, 0))) ∧ Below w.heap.size w w' := by
  have qa := Lib.hid (fun w' => rMay_any 1 x s r w' (by decide) hx)
  have qb := Lib.hid (fun w' => rMay_any 2 x' s' r' w' (by decide) hy)
  have oa := Lib.hid (fun w' => rObj_any 1 x s r w')
  have ob := Lib.hid (fun w' => rObj_any 2 x' s' r' w')
  rw [ma] at qa
  rw [mb] at qb
  rw [show isObj 1 = false from by decide] at oa
  rw [show isObj 2 = false from by decide] at ob
  have qp := Lib.hid (fun w' => rPlain_1_3 x s r x' ByteArray.empty 0 w' hx hy ma (may_bool mb))
  have qn := Lib.hid (fun w' => rNum_any x' w')
  unfold val at *
  clear ma mb hx hy
  go_enter Tryd.func20, Tryd.ntmps20
  go_wp2_with fail
  refine (qa.out _).mono ?_; rintro e w1 ⟨rfl, b1⟩
  obtain ⟨hc, hf⟩ := bcell b1
  have B1 := Lib.hid b1
  clear b1
  go_wp2_with fail
  refine (qb.out _).mono ?_; rintro e w2 ⟨rfl, b2⟩
  have B2 := Lib.hid (B1.out.trans (b2.mono B1.out.size))
  clear b2 hc hf
  obtain ⟨hc, hf⟩ := bcell B2.out
  go_wp2_with fail
  refine (oa.out _).mono ?_; rintro e w3 ⟨rfl, b3⟩
  have B3 := Lib.hid (B2.out.trans (b3.mono B2.out.size))
  clear b3 hc hf
  obtain ⟨hc, hf⟩ := bcell B3.out
  go_wp2_with fail
  refine (ob.out _).mono ?_; rintro e w4 ⟨rfl, b4⟩
  have B4 := Lib.hid (B3.out.trans (b4.mono B3.out.size))
  clear b4 hc hf
  obtain ⟨hc, hf⟩ := bcell B4.out
  go_wp2_with fail
  have hz : w.heap.size + 1 < w4.heap.size := by have := B4.out.size; simp at this; omega
  have i0 : w4.cell? ⟨w.heap.size + 1, 1, none⟩ = some (.float .f64 x') := (hc (w.heap.size + 1) 1 (by simp <;> omega)).trans (second_cell _ _ _ _ 1)
  have j0 : w4.cell? ⟨w.heap.size, 0, none⟩ = some (.int .u8 1) := (hc (w.heap.size) 0 (by simp <;> omega)).trans (first_cell _ _ _ _ 0)
  have j1 : w4.cell? ⟨w.heap.size, 1, none⟩ = some (.float .f64 x) := (hc (w.heap.size) 1 (by simp <;> omega)).trans (first_cell _ _ _ _ 1)
  have j2 : w4.cell? ⟨w.heap.size, 2, none⟩ = some (.string s) := (hc (w.heap.size) 2 (by simp <;> omega)).trans (first_cell _ _ _ _ 2)
  have j3 : w4.cell? ⟨w.heap.size, 3, none⟩ = some (.int .i64 r) := (hc (w.heap.size) 3 (by simp <;> omega)).trans (first_cell _ _ _ _ 3)
  clear hc hf
  have hS : w4.cell? ⟨w.heap.size + 1, 1, none⟩ = some (.float .f64 x') ∧ w4.cell? ⟨w.heap.size, 0, none⟩ = some (.int .u8 1) ∧ w4.cell? ⟨w.heap.size, 1, none⟩ = some (.float .f64 x) ∧ w4.cell? ⟨w.heap.size, 2, none⟩ = some (.string s) ∧ w4.cell? ⟨w.heap.size, 3, none⟩ = some (.int .i64 r) ∧ w.heap.size + 1 < w4.heap.size ∧ w.heap.size < w4.heap.size ∧ Below w.heap.size w w4 := ⟨i0, j0, j1, j2, j3, by omega, by omega, below_three B4.out⟩
  clear i0 j0 j1 j2 j3
  go_region_held3 (fun w' => w'.cell? ⟨w.heap.size + 1, 1, none⟩ = some (.float .f64 x') ∧ w'.cell? ⟨w.heap.size, 0, none⟩ = some (.int .u8 1) ∧ w'.cell? ⟨w.heap.size, 1, none⟩ = some (.float .f64 x) ∧ w'.cell? ⟨w.heap.size, 2, none⟩ = some (.string s) ∧ w'.cell? ⟨w.heap.size, 3, none⟩ = some (.int .i64 r) ∧ w.heap.size + 1 < w'.heap.size ∧ w.heap.size < w'.heap.size ∧ Below w.heap.size w w') (first | exact hS | exact keep_six (by assumption) (by assumption) | (exact keep_six (by assumption) (Below.drew (Below.refl _ _)))) (first | (go_at_call 83; refine (qn.out _).mono ?_; rintro e w' ⟨rfl, b⟩) | (go_at_call 20; refine (qp.out _).mono ?_; rintro e w' ⟨rfl, b⟩))
  all_goals
    go_wp2
    go_ret2
    exact ⟨rfl, out_six (by assumption)⟩

set_option maxHeartbeats 4000000 in
theorem rPlain_3_2 (x : Nat) (s : ByteArray) (r : Int) (x' : Nat) (s' : ByteArray) (r' : Int) (w : World) (hx : x < 18446744073709551616) (hy : x' < 18446744073709551616) (ma : mayV 3 x s r = true) (mb : mayV 2 x' s' r' = true) :
    Calls Tryd.prog 20 #[val 3 x s r, val 2 x' s' r'] w fun e w' => e = .returned (plW ((strictV 3 x s r 3 x' ByteArray.empty 0, 0))) ∧ Below w.heap.size w w' := by
  have qa := Lib.hid (fun w' => rMay_any 3 x s r w' (by decide) hx)
  have qb := Lib.hid (fun w' => rMay_any 2 x' s' r' w' (by decide) hy)
  have oa := Lib.hid (fun w' => rObj_any 3 x s r w')
  have ob := Lib.hid (fun w' => rObj_any 2 x' s' r' w')
  rw [ma] at qa
  rw [mb] at qb
  rw [show isObj 3 = false from by decide] at oa
  rw [show isObj 2 = false from by decide] at ob
  have qp := Lib.hid (fun w' => rPlain_3_3 x s r x' ByteArray.empty 0 w' hx hy ma (may_bool mb))
  have qn := Lib.hid (fun w' => rNum_any x' w')
  unfold val at *
  generalize strictV 3 x s r 3 x' ByteArray.empty 0 = V at *
  clear ma mb hx hy
  go_enter Tryd.func20, Tryd.ntmps20
  go_wp2_with fail
  refine (qa.out _).mono ?_; rintro e w1 ⟨rfl, b1⟩
  obtain ⟨hc, hf⟩ := bcell b1
  have B1 := Lib.hid b1
  clear b1
  go_wp2_with fail
  refine (qb.out _).mono ?_; rintro e w2 ⟨rfl, b2⟩
  have B2 := Lib.hid (B1.out.trans (b2.mono B1.out.size))
  clear b2 hc hf
  obtain ⟨hc, hf⟩ := bcell B2.out
  go_wp2_with fail
  refine (oa.out _).mono ?_; rintro e w3 ⟨rfl, b3⟩
  have B3 := Lib.hid (B2.out.trans (b3.mono B2.out.size))
  clear b3 hc hf
  obtain ⟨hc, hf⟩ := bcell B3.out
  go_wp2_with fail
  refine (ob.out _).mono ?_; rintro e w4 ⟨rfl, b4⟩
  have B4 := Lib.hid (B3.out.trans (b4.mono B3.out.size))
  clear b4 hc hf
  obtain ⟨hc, hf⟩ := bcell B4.out
  go_wp2_with fail
  have hz : w.heap.size + 1 < w4.heap.size := by have := B4.out.size; simp at this; omega
  have i0 : w4.cell? ⟨w.heap.size + 1, 1, none⟩ = some (.float .f64 x') := (hc (w.heap.size + 1) 1 (by simp <;> omega)).trans (second_cell _ _ _ _ 1)
  have j0 : w4.cell? ⟨w.heap.size, 0, none⟩ = some (.int .u8 3) := (hc (w.heap.size) 0 (by simp <;> omega)).trans (first_cell _ _ _ _ 0)
  have j1 : w4.cell? ⟨w.heap.size, 1, none⟩ = some (.float .f64 x) := (hc (w.heap.size) 1 (by simp <;> omega)).trans (first_cell _ _ _ _ 1)
  have j2 : w4.cell? ⟨w.heap.size, 2, none⟩ = some (.string s) := (hc (w.heap.size) 2 (by simp <;> omega)).trans (first_cell _ _ _ _ 2)
  have j3 : w4.cell? ⟨w.heap.size, 3, none⟩ = some (.int .i64 r) := (hc (w.heap.size) 3 (by simp <;> omega)).trans (first_cell _ _ _ _ 3)
  clear hc hf
  have hS : w4.cell? ⟨w.heap.size + 1, 1, none⟩ = some (.float .f64 x') ∧ w4.cell? ⟨w.heap.size, 0, none⟩ = some (.int .u8 3) ∧ w4.cell? ⟨w.heap.size, 1, none⟩ = some (.float .f64 x) ∧ w4.cell? ⟨w.heap.size, 2, none⟩ = some (.string s) ∧ w4.cell? ⟨w.heap.size, 3, none⟩ = some (.int .i64 r) ∧ w.heap.size + 1 < w4.heap.size ∧ w.heap.size < w4.heap.size ∧ Below w.heap.size w w4 := ⟨i0, j0, j1, j2, j3, by omega, by omega, below_three B4.out⟩
  clear i0 j0 j1 j2 j3
  go_region_held3 (fun w' => w'.cell? ⟨w.heap.size + 1, 1, none⟩ = some (.float .f64 x') ∧ w'.cell? ⟨w.heap.size, 0, none⟩ = some (.int .u8 3) ∧ w'.cell? ⟨w.heap.size, 1, none⟩ = some (.float .f64 x) ∧ w'.cell? ⟨w.heap.size, 2, none⟩ = some (.string s) ∧ w'.cell? ⟨w.heap.size, 3, none⟩ = some (.int .i64 r) ∧ w.heap.size + 1 < w'.heap.size ∧ w.heap.size < w'.heap.size ∧ Below w.heap.size w w') (first | exact hS | exact keep_six (by assumption) (by assumption) | (exact keep_six (by assumption) (Below.drew (Below.refl _ _)))) (first | (go_at_call 83; refine (qn.out _).mono ?_; rintro e w' ⟨rfl, b⟩) | (go_at_call 20; refine (qp.out _).mono ?_; rintro e w' ⟨rfl, b⟩))
  all_goals
    go_wp2
    go_ret2
    exact ⟨rfl, out_six (by assumption)⟩

set_option maxHeartbeats 4000000 in
theorem rPlain_4_2 (x : Nat) (s : ByteArray) (r : Int) (x' : Nat) (s' : ByteArray) (r' : Int) (w : World) (hx : x < 18446744073709551616) (hy : x' < 18446744073709551616) (ma : mayV 4 x s r = true) (mb : mayV 2 x' s' r' = true) :
    Calls Tryd.prog 20 #[val 4 x s r, val 2 x' s' r'] w fun e w' => e = .returned (plW (eqRead x' s)) ∧ Below w.heap.size w w' := by
  have qa := Lib.hid (fun w' => rMay_any 4 x s r w' (by decide) hx)
  have qb := Lib.hid (fun w' => rMay_any 2 x' s' r' w' (by decide) hy)
  have oa := Lib.hid (fun w' => rObj_any 4 x s r w')
  have ob := Lib.hid (fun w' => rObj_any 2 x' s' r' w')
  rw [ma] at qa
  rw [mb] at qb
  rw [show isObj 4 = false from by decide] at oa
  rw [show isObj 2 = false from by decide] at ob
  have qp := Lib.hid (fun w' => rPlain_4_3 x s r x' ByteArray.empty 0 w' hx hy ma (may_bool mb))
  have qn := Lib.hid (fun w' => rNum_any x' w')
  unfold val at *
  generalize eqRead x' s = p at *
  clear ma mb hx hy
  go_enter Tryd.func20, Tryd.ntmps20
  go_wp2_with fail
  refine (qa.out _).mono ?_; rintro e w1 ⟨rfl, b1⟩
  obtain ⟨hc, hf⟩ := bcell b1
  have B1 := Lib.hid b1
  clear b1
  go_wp2_with fail
  refine (qb.out _).mono ?_; rintro e w2 ⟨rfl, b2⟩
  have B2 := Lib.hid (B1.out.trans (b2.mono B1.out.size))
  clear b2 hc hf
  obtain ⟨hc, hf⟩ := bcell B2.out
  go_wp2_with fail
  refine (oa.out _).mono ?_; rintro e w3 ⟨rfl, b3⟩
  have B3 := Lib.hid (B2.out.trans (b3.mono B2.out.size))
  clear b3 hc hf
  obtain ⟨hc, hf⟩ := bcell B3.out
  go_wp2_with fail
  refine (ob.out _).mono ?_; rintro e w4 ⟨rfl, b4⟩
  have B4 := Lib.hid (B3.out.trans (b4.mono B3.out.size))
  clear b4 hc hf
  obtain ⟨hc, hf⟩ := bcell B4.out
  go_wp2_with fail
  have hz : w.heap.size + 1 < w4.heap.size := by have := B4.out.size; simp at this; omega
  have i0 : w4.cell? ⟨w.heap.size + 1, 1, none⟩ = some (.float .f64 x') := (hc (w.heap.size + 1) 1 (by simp <;> omega)).trans (second_cell _ _ _ _ 1)
  have j0 : w4.cell? ⟨w.heap.size, 0, none⟩ = some (.int .u8 4) := (hc (w.heap.size) 0 (by simp <;> omega)).trans (first_cell _ _ _ _ 0)
  have j1 : w4.cell? ⟨w.heap.size, 1, none⟩ = some (.float .f64 x) := (hc (w.heap.size) 1 (by simp <;> omega)).trans (first_cell _ _ _ _ 1)
  have j2 : w4.cell? ⟨w.heap.size, 2, none⟩ = some (.string s) := (hc (w.heap.size) 2 (by simp <;> omega)).trans (first_cell _ _ _ _ 2)
  have j3 : w4.cell? ⟨w.heap.size, 3, none⟩ = some (.int .i64 r) := (hc (w.heap.size) 3 (by simp <;> omega)).trans (first_cell _ _ _ _ 3)
  clear hc hf
  have hS : w4.cell? ⟨w.heap.size + 1, 1, none⟩ = some (.float .f64 x') ∧ w4.cell? ⟨w.heap.size, 0, none⟩ = some (.int .u8 4) ∧ w4.cell? ⟨w.heap.size, 1, none⟩ = some (.float .f64 x) ∧ w4.cell? ⟨w.heap.size, 2, none⟩ = some (.string s) ∧ w4.cell? ⟨w.heap.size, 3, none⟩ = some (.int .i64 r) ∧ w.heap.size + 1 < w4.heap.size ∧ w.heap.size < w4.heap.size ∧ Below w.heap.size w w4 := ⟨i0, j0, j1, j2, j3, by omega, by omega, below_three B4.out⟩
  clear i0 j0 j1 j2 j3
  go_region_held3 (fun w' => w'.cell? ⟨w.heap.size + 1, 1, none⟩ = some (.float .f64 x') ∧ w'.cell? ⟨w.heap.size, 0, none⟩ = some (.int .u8 4) ∧ w'.cell? ⟨w.heap.size, 1, none⟩ = some (.float .f64 x) ∧ w'.cell? ⟨w.heap.size, 2, none⟩ = some (.string s) ∧ w'.cell? ⟨w.heap.size, 3, none⟩ = some (.int .i64 r) ∧ w.heap.size + 1 < w'.heap.size ∧ w.heap.size < w'.heap.size ∧ Below w.heap.size w w') (first | exact hS | exact keep_six (by assumption) (by assumption) | (exact keep_six (by assumption) (Below.drew (Below.refl _ _)))) (first | (go_at_call 83; refine (qn.out _).mono ?_; rintro e w' ⟨rfl, b⟩) | (go_at_call 20; refine (qp.out _).mono ?_; rintro e w' ⟨rfl, b⟩))
  all_goals
    go_wp2
    go_ret2
    exact ⟨rfl, out_six (by assumption)⟩

set_option maxHeartbeats 4000000 in
theorem rPlain_5_2 (x : Nat) (s : ByteArray) (r : Int) (x' : Nat) (s' : ByteArray) (r' : Int) (w : World) (hx : x < 18446744073709551616) (hy : x' < 18446744073709551616) (ma : mayV 5 x s r = true) (mb : mayV 2 x' s' r' = true) :
    Calls Tryd.prog 20 #[val 5 x s r, val 2 x' s' r'] w fun e w' => e = .returned (plW ((false, 0))) ∧ Below w.heap.size w w' := by
  have qa := Lib.hid (fun w' => rMay_any 5 x s r w' (by decide) hx)
  have qb := Lib.hid (fun w' => rMay_any 2 x' s' r' w' (by decide) hy)
  have oa := Lib.hid (fun w' => rObj_any 5 x s r w')
  have ob := Lib.hid (fun w' => rObj_any 2 x' s' r' w')
  rw [ma] at qa
  rw [mb] at qb
  rw [show isObj 5 = false from by decide] at oa
  rw [show isObj 2 = false from by decide] at ob
  have qp := Lib.hid (fun w' => rPlain_5_3 x s r x' ByteArray.empty 0 w' hx hy ma (may_bool mb))
  have qn := Lib.hid (fun w' => rNum_any x' w')
  unfold val at *
  clear ma mb hx hy
  go_enter Tryd.func20, Tryd.ntmps20
  go_wp2_with fail
  refine (qa.out _).mono ?_; rintro e w1 ⟨rfl, b1⟩
  obtain ⟨hc, hf⟩ := bcell b1
  have B1 := Lib.hid b1
  clear b1
  go_wp2_with fail
  refine (qb.out _).mono ?_; rintro e w2 ⟨rfl, b2⟩
  have B2 := Lib.hid (B1.out.trans (b2.mono B1.out.size))
  clear b2 hc hf
  obtain ⟨hc, hf⟩ := bcell B2.out
  go_wp2_with fail
  refine (oa.out _).mono ?_; rintro e w3 ⟨rfl, b3⟩
  have B3 := Lib.hid (B2.out.trans (b3.mono B2.out.size))
  clear b3 hc hf
  obtain ⟨hc, hf⟩ := bcell B3.out
  go_wp2_with fail
  refine (ob.out _).mono ?_; rintro e w4 ⟨rfl, b4⟩
  have B4 := Lib.hid (B3.out.trans (b4.mono B3.out.size))
  clear b4 hc hf
  obtain ⟨hc, hf⟩ := bcell B4.out
  go_wp2_with fail
  have hz : w.heap.size + 1 < w4.heap.size := by have := B4.out.size; simp at this; omega
  have i0 : w4.cell? ⟨w.heap.size + 1, 1, none⟩ = some (.float .f64 x') := (hc (w.heap.size + 1) 1 (by simp <;> omega)).trans (second_cell _ _ _ _ 1)
  have j0 : w4.cell? ⟨w.heap.size, 0, none⟩ = some (.int .u8 5) := (hc (w.heap.size) 0 (by simp <;> omega)).trans (first_cell _ _ _ _ 0)
  have j1 : w4.cell? ⟨w.heap.size, 1, none⟩ = some (.float .f64 x) := (hc (w.heap.size) 1 (by simp <;> omega)).trans (first_cell _ _ _ _ 1)
  have j2 : w4.cell? ⟨w.heap.size, 2, none⟩ = some (.string s) := (hc (w.heap.size) 2 (by simp <;> omega)).trans (first_cell _ _ _ _ 2)
  have j3 : w4.cell? ⟨w.heap.size, 3, none⟩ = some (.int .i64 r) := (hc (w.heap.size) 3 (by simp <;> omega)).trans (first_cell _ _ _ _ 3)
  clear hc hf
  have hS : w4.cell? ⟨w.heap.size + 1, 1, none⟩ = some (.float .f64 x') ∧ w4.cell? ⟨w.heap.size, 0, none⟩ = some (.int .u8 5) ∧ w4.cell? ⟨w.heap.size, 1, none⟩ = some (.float .f64 x) ∧ w4.cell? ⟨w.heap.size, 2, none⟩ = some (.string s) ∧ w4.cell? ⟨w.heap.size, 3, none⟩ = some (.int .i64 r) ∧ w.heap.size + 1 < w4.heap.size ∧ w.heap.size < w4.heap.size ∧ Below w.heap.size w w4 := ⟨i0, j0, j1, j2, j3, by omega, by omega, below_three B4.out⟩
  clear i0 j0 j1 j2 j3
  go_region_held3 (fun w' => w'.cell? ⟨w.heap.size + 1, 1, none⟩ = some (.float .f64 x') ∧ w'.cell? ⟨w.heap.size, 0, none⟩ = some (.int .u8 5) ∧ w'.cell? ⟨w.heap.size, 1, none⟩ = some (.float .f64 x) ∧ w'.cell? ⟨w.heap.size, 2, none⟩ = some (.string s) ∧ w'.cell? ⟨w.heap.size, 3, none⟩ = some (.int .i64 r) ∧ w.heap.size + 1 < w'.heap.size ∧ w.heap.size < w'.heap.size ∧ Below w.heap.size w w') (first | exact hS | exact keep_six (by assumption) (by assumption) | (exact keep_six (by assumption) (Below.drew (Below.refl _ _)))) (first | (go_at_call 83; refine (qn.out _).mono ?_; rintro e w' ⟨rfl, b⟩) | (go_at_call 20; refine (qp.out _).mono ?_; rintro e w' ⟨rfl, b⟩))
  all_goals
    go_wp2
    go_ret2
    exact ⟨rfl, out_six (by assumption)⟩

set_option maxHeartbeats 4000000 in
theorem rPlain_bad (k : Int) (x : Nat) (s : ByteArray) (r : Int) (k' : Int) (x' : Nat) (s' : ByteArray) (r' : Int) (w : World) (hk : 0 ≤ k) (hk' : 0 ≤ k') (hx : x < 18446744073709551616) (hy : x' < 18446744073709551616)
    (h : ¬ (mayV k x s r = true ∧ mayV k' x' s' r' = true ∧ isObj k = false ∧ isObj k' = false)) :
    Calls Tryd.prog 20 #[val k x s r, val k' x' s' r'] w fun e w' => e = .returned (plW (false, 9)) ∧ Below w.heap.size w w' := by
  have qa := Lib.hid (fun w' => rMay_any k x s r w' hk hx)
  have qb := Lib.hid (fun w' => rMay_any k' x' s' r' w' hk' hy)
  have oa := Lib.hid (fun w' => rObj_any k x s r w')
  have ob := Lib.hid (fun w' => rObj_any k' x' s' r' w')
  clear hx hy
  cases m1 : mayV k x s r with
  | false =>
    rw [m1] at qa
    unfold val at *
    clear m1 h
    go_enter Tryd.func20, Tryd.ntmps20
    go_wp2_with fail
    refine (qa.out _).mono ?_; rintro e w1 ⟨rfl, b1⟩
    obtain ⟨hc, hf⟩ := bcell b1
    have B1 := Lib.hid b1
    clear b1
    go_wp2
    go_ret2
    exact ⟨rfl, below_three B1.out⟩
  | true =>
    rw [m1] at qa
    cases m2 : mayV k' x' s' r' with
    | false =>
      rw [m2] at qb
      unfold val at *
      clear m1 m2 h
      go_enter Tryd.func20, Tryd.ntmps20
      go_wp2_with fail
      refine (qa.out _).mono ?_; rintro e w1 ⟨rfl, b1⟩
      obtain ⟨hc, hf⟩ := bcell b1
      have B1 := Lib.hid b1
      clear b1
      go_wp2_with fail
      refine (qb.out _).mono ?_; rintro e w2 ⟨rfl, b2⟩
      have B2 := Lib.hid (B1.out.trans (b2.mono B1.out.size))
      clear b2 hc hf
      obtain ⟨hc, hf⟩ := bcell B2.out
      go_wp2
      go_ret2
      exact ⟨rfl, below_three B2.out⟩
    | true =>
      rw [m2] at qb
      cases o1 : isObj k with
      | true =>
        rw [o1] at oa
        unfold val at *
        clear m1 m2 o1 h
        go_enter Tryd.func20, Tryd.ntmps20
        go_wp2_with fail
        refine (qa.out _).mono ?_; rintro e w1 ⟨rfl, b1⟩
        obtain ⟨hc, hf⟩ := bcell b1
        have B1 := Lib.hid b1
        clear b1
        go_wp2_with fail
        refine (qb.out _).mono ?_; rintro e w2 ⟨rfl, b2⟩
        have B2 := Lib.hid (B1.out.trans (b2.mono B1.out.size))
        clear b2 hc hf
        obtain ⟨hc, hf⟩ := bcell B2.out
        go_wp2_with fail
        refine (oa.out _).mono ?_; rintro e w3 ⟨rfl, b3⟩
        have B3 := Lib.hid (B2.out.trans (b3.mono B2.out.size))
        clear b3 hc hf
        obtain ⟨hc, hf⟩ := bcell B3.out
        go_wp2
        go_ret2
        exact ⟨rfl, below_three B3.out⟩
      | false =>
        rw [o1] at oa
        have o2 : isObj k' = true := by
          cases o2 : isObj k' with
          | true => rfl
          | false => exact absurd ⟨m1, m2, o1, o2⟩ h
        rw [o2] at ob
        unfold val at *
        clear m1 m2 o1 o2 h
        go_enter Tryd.func20, Tryd.ntmps20
        go_wp2_with fail
        refine (qa.out _).mono ?_; rintro e w1 ⟨rfl, b1⟩
        obtain ⟨hc, hf⟩ := bcell b1
        have B1 := Lib.hid b1
        clear b1
        go_wp2_with fail
        refine (qb.out _).mono ?_; rintro e w2 ⟨rfl, b2⟩
        have B2 := Lib.hid (B1.out.trans (b2.mono B1.out.size))
        clear b2 hc hf
        obtain ⟨hc, hf⟩ := bcell B2.out
        go_wp2_with fail
        refine (oa.out _).mono ?_; rintro e w3 ⟨rfl, b3⟩
        have B3 := Lib.hid (B2.out.trans (b3.mono B2.out.size))
        clear b3 hc hf
        obtain ⟨hc, hf⟩ := bcell B3.out
        go_wp2_with fail
        refine (ob.out _).mono ?_; rintro e w4 ⟨rfl, b4⟩
        have B4 := Lib.hid (B3.out.trans (b4.mono B3.out.size))
        clear b4 hc hf
        obtain ⟨hc, hf⟩ := bcell B4.out
        go_wp2
        go_ret2
        exact ⟨rfl, below_three B4.out⟩



theorem rPlain_any (k : Int) (x : Nat) (s : ByteArray) (r : Int) (k' : Int) (x' : Nat) (s' : ByteArray) (r' : Int) (w : World) (hk : 0 ≤ k) (hk' : 0 ≤ k') (hx : x < 18446744073709551616) (hy : x' < 18446744073709551616) :
    Calls Tryd.prog 20 #[val k x s r, val k' x' s' r'] w fun e w' => e = .returned (plW (plainG k x s r k' x' s' r')) ∧ Below w.heap.size w w' := by
  by_cases h : mayV k x s r = true ∧ mayV k' x' s' r' = true ∧ isObj k = false ∧ isObj k' = false
  · have hg : plainG k x s r k' x' s' r' = plainS k x s r k' x' s' r' := by unfold plainG; rw [if_pos h]
    rw [hg]
    obtain ⟨ma, mb, o1, o2⟩ := h
    clear hg
    rcases small_kind hk ma o1 with rfl | rfl | rfl | rfl | rfl | rfl <;> rcases small_kind hk' mb o2 with rfl | rfl | rfl | rfl | rfl | rfl
    · exact rPlain_0_0 x s r x' s' r' w hx hy ma mb
    · exact rPlain_0_1 x s r x' s' r' w hx hy ma mb
    · exact rPlain_0_2 x s r x' s' r' w hx hy ma mb
    · exact rPlain_0_3 x s r x' s' r' w hx hy ma mb
    · exact rPlain_0_4 x s r x' s' r' w hx hy ma mb
    · exact rPlain_0_5 x s r x' s' r' w hx hy ma mb
    · exact rPlain_1_0 x s r x' s' r' w hx hy ma mb
    · exact rPlain_1_1 x s r x' s' r' w hx hy ma mb
    · exact rPlain_1_2 x s r x' s' r' w hx hy ma mb
    · exact rPlain_1_3 x s r x' s' r' w hx hy ma mb
    · exact rPlain_1_4 x s r x' s' r' w hx hy ma mb
    · exact rPlain_1_5 x s r x' s' r' w hx hy ma mb
    · exact rPlain_2_0 x s r x' s' r' w hx hy ma mb
    · exact rPlain_2_1 x s r x' s' r' w hx hy ma mb
    · exact rPlain_2_2 x s r x' s' r' w hx hy ma mb
    · exact rPlain_2_3 x s r x' s' r' w hx hy ma mb
    · exact rPlain_2_4 x s r x' s' r' w hx hy ma mb
    · exact rPlain_2_5 x s r x' s' r' w hx hy ma mb
    · exact rPlain_3_0 x s r x' s' r' w hx hy ma mb
    · exact rPlain_3_1 x s r x' s' r' w hx hy ma mb
    · exact rPlain_3_2 x s r x' s' r' w hx hy ma mb
    · exact rPlain_3_3 x s r x' s' r' w hx hy ma mb
    · exact rPlain_3_4 x s r x' s' r' w hx hy ma mb
    · exact rPlain_3_5 x s r x' s' r' w hx hy ma mb
    · exact rPlain_4_0 x s r x' s' r' w hx hy ma mb
    · exact rPlain_4_1 x s r x' s' r' w hx hy ma mb
    · exact rPlain_4_2 x s r x' s' r' w hx hy ma mb
    · exact rPlain_4_3 x s r x' s' r' w hx hy ma mb
    · exact rPlain_4_4 x s r x' s' r' w hx hy ma mb
    · exact rPlain_4_5 x s r x' s' r' w hx hy ma mb
    · exact rPlain_5_0 x s r x' s' r' w hx hy ma mb
    · exact rPlain_5_1 x s r x' s' r' w hx hy ma mb
    · exact rPlain_5_2 x s r x' s' r' w hx hy ma mb
    · exact rPlain_5_3 x s r x' s' r' w hx hy ma mb
    · exact rPlain_5_4 x s r x' s' r' w hx hy ma mb
    · exact rPlain_5_5 x s r x' s' r' w hx hy ma mb
  · have hg : plainG k x s r k' x' s' r' = (false, 9) := by unfold plainG; rw [if_neg h]
    rw [hg]
    exact rPlain_bad k x s r k' x' s' r' w hk hk' hx hy h
end Go.Proofs.YtajmdpndbfmdmaaDoor
