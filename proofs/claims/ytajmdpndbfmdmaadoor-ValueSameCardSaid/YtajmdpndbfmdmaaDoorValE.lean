/-
  value.Same, Strict and Plain, and the document's Strict. Conditions: the numbers are words of 64 bits, the kinds bytes.
-/
import Derived.Test.YtajmdpndbfmdmaaDoorValD
import Derived.Test.YtajmdpndbfmdmaaDoorValC
import Derived.Test.YtajmdpndbfmdmaaDoorRe
namespace Go.Proofs.YtajmdpndbfmdmaaDoor
open Go Go.RowKit

set_option maxHeartbeats 2000000 in
theorem vSame_any (k : Int) (x : Nat) (s : ByteArray) (r : Int) (k' : Int) (x' : Nat) (s' : ByteArray) (r' : Int) (w : World) (hx : x < 18446744073709551616) (hy : x' < 18446744073709551616) :
    Calls Tryd.prog 21 #[val k x s r, val k' x' s' r'] w fun e w' => e = .returned (.bool (sameV k x s r k' x' s' r')) ∧ Below w.heap.size w w' := by
  have q := Lib.hid (fun w' => vStrict_any k x s r k' x' s' r' w' hx hy)
  have e1 := Fl.ord_neq hx hx
  have e2 := Fl.ord_neq hy hy
  rw [Fl.feq_self] at e1 e2
  unfold val at *
  by_cases h3 : k = 3
  · subst h3
    by_cases h4 : k' = 3
    · subst h4
      cases n1 : Fl.isN x with
      | true =>
        rw [n1] at e1
        have hres : sameV 3 x s r 3 x' s' r' = Fl.isN x' := by unfold sameV; rw [if_pos ⟨rfl, rfl, n1⟩]
        rw [hres]
        clear hres n1 q hx hy
        cases n2 : Fl.isN x' <;> rw [n2] at e2 <;> clear n2
        · go_enter Tryd.func21, Tryd.ntmps21
          go_wp2
          go_ret
          exact ⟨rfl, below_two⟩
        · go_enter Tryd.func21, Tryd.ntmps21
          go_wp2
          go_ret
          exact ⟨rfl, below_two⟩
      | false =>
        rw [n1] at e1
        have hres : sameV 3 x s r 3 x' s' r' = strictV 3 x s r 3 x' s' r' := by unfold sameV; rw [if_neg (by simp [n1])]
        rw [hres]
        generalize strictV 3 x s r 3 x' s' r' = V at *
        clear hres n1 e2 hx hy
        go_enter Tryd.func21, Tryd.ntmps21
        go_wp2_with fail
        refine (q.out _).mono ?_; rintro e w1 ⟨rfl, b1⟩
        have B1 := Lib.hid b1
        clear b1
        go_wp2
        go_ret
        exact ⟨rfl, below_three B1.out⟩
    · have hres : sameV 3 x s r k' x' s' r' = strictV 3 x s r k' x' s' r' := by unfold sameV; rw [if_neg (by omega)]
      rw [hres]
      generalize strictV 3 x s r k' x' s' r' = V at *
      have h5 : (k' == 3) = false := by rw [beq_eq_false_iff_ne]; exact h4
      clear hres e1 e2 hx hy
      go_enter Tryd.func21, Tryd.ntmps21
      go_wp2_with fail
      refine (q.out _).mono ?_; rintro e w1 ⟨rfl, b1⟩
      have B1 := Lib.hid b1
      clear b1
      go_wp2
      go_ret
      exact ⟨rfl, below_three B1.out⟩
  · have hres : sameV k x s r k' x' s' r' = strictV k x s r k' x' s' r' := by unfold sameV; rw [if_neg (by omega)]
    rw [hres]
    generalize strictV k x s r k' x' s' r' = V at *
    have h5 : (k == 3) = false := by rw [beq_eq_false_iff_ne]; exact h3
    clear hres e1 e2 hx hy
    go_enter Tryd.func21, Tryd.ntmps21
    go_wp2_with fail
    refine (q.out _).mono ?_; rintro e w1 ⟨rfl, b1⟩
    have B1 := Lib.hid b1
    clear b1
    go_wp2
    go_ret
    exact ⟨rfl, below_three B1.out⟩

set_option maxHeartbeats 2000000 in
theorem rStrict_any (k : Int) (x : Nat) (s : ByteArray) (r : Int) (k' : Int) (x' : Nat) (s' : ByteArray) (r' : Int) (w : World) (hx : x < 18446744073709551616) (hy : x' < 18446744073709551616) :
    Calls Tryd.prog 24 #[val k x s r, val k' x' s' r'] w fun e w' => e = .returned (.bool (strictV k x s r k' x' s' r')) ∧ Below w.heap.size w w' := by
  have q := Lib.hid (fun w' => rSame_any k x s r k' x' s' r' w' hx hy)
  have e1 := Fl.ord_neq hx hx
  rw [Fl.feq_self] at e1
  unfold val at *
  by_cases h3 : k = 3
  · subst h3
    cases n1 : Fl.isN x with
    | true =>
      rw [n1] at e1
      have hres : strictV 3 x s r k' x' s' r' = false := by
        have o : isObj 3 = false := by decide
        unfold strictV
        rw [o, if_neg (by simp)]
        by_cases h4 : (3 : Int) ≠ k'
        · rw [if_pos h4]
        · rw [if_neg h4, if_neg (by decide), if_pos (by decide)]
          unfold Fl.feq; rw [n1]; rfl
      rw [hres]
      clear hres n1 q hx hy
      go_enter Tryd.func24, Tryd.ntmps24
      go_wp2
      go_ret
      exact ⟨rfl, below_two⟩
    | false =>
      rw [n1] at e1
      have hres : sameV 3 x s r k' x' s' r' = strictV 3 x s r k' x' s' r' := by unfold sameV; rw [if_neg (by simp [n1])]
      rw [hres] at q
      generalize strictV 3 x s r k' x' s' r' = V at *
      clear hres n1 hx hy
      go_enter Tryd.func24, Tryd.ntmps24
      go_wp2_with fail
      refine (q.out _).mono ?_; rintro e w1 ⟨rfl, b1⟩
      have B1 := Lib.hid b1
      clear b1
      go_wp2
      go_ret
      exact ⟨rfl, below_three B1.out⟩
  · have hres : sameV k x s r k' x' s' r' = strictV k x s r k' x' s' r' := by unfold sameV; rw [if_neg (by omega)]
    rw [hres] at q
    generalize strictV k x s r k' x' s' r' = V at *
    have h5 : (k == 3) = false := by rw [beq_eq_false_iff_ne]; exact h3
    clear hres e1 hx hy
    go_enter Tryd.func24, Tryd.ntmps24
    go_wp2_with fail
    refine (q.out _).mono ?_; rintro e w1 ⟨rfl, b1⟩
    have B1 := Lib.hid b1
    clear b1
    go_wp2
    go_ret
    exact ⟨rfl, below_three B1.out⟩

def eqO (v : Option Int) (x : Nat) : Bool := match v with | some n => Fl.feq (Fl.W n) x | none => false
theorem feq_fits {z x : Nat} {v : Option Int} (h : Fl.Fits z v) : Fl.feq z x = eqO v x := by
  cases v with
  | none => unfold Fl.feq eqO; rw [h.1]; rfl
  | some n => unfold eqO; rw [h.1]
/-- Is a number what a text is worth? -/
def eqRead (x : Nat) (s : ByteArray) : Bool × Int := (decide ((readL (trimV s).data.toList).2 = 0) && eqO (readL (trimV s).data.toList).1 x, (readL (trimV s).data.toList).2)
/-- == of two values of unlike kinds, booleans read as numbers. -/
def plainT (k : Int) (x : Nat) (s : ByteArray) (r : Int) (k' : Int) (x' : Nat) (s' : ByteArray) (r' : Int) : Bool × Int :=
  if k = k' then (strictV k x s r k' x' s' r', 0) else if k ≤ 1 ∧ k' ≤ 1 then (true, 0) else if k = 4 ∧ k' = 3 then eqRead x' s else if k = 3 ∧ k' = 4 then eqRead x s' else (false, 0)
def plainS (k : Int) (x : Nat) (s : ByteArray) (r : Int) (k' : Int) (x' : Nat) (s' : ByteArray) (r' : Int) : Bool × Int :=
  if k = k' then (strictV k x s r k' x' s' r', 0)
  else if k = 2 then plainT 3 x ByteArray.empty 0 k' x' s' r' else if k' = 2 then plainT k x s r 3 x' ByteArray.empty 0 else plainT k x s r k' x' s' r'
def plainG (k : Int) (x : Nat) (s : ByteArray) (r : Int) (k' : Int) (x' : Nat) (s' : ByteArray) (r' : Int) : Bool × Int :=
  if mayV k x s r = true ∧ mayV k' x' s' r' = true ∧ isObj k = false ∧ isObj k' = false then plainS k x s r k' x' s' r' else (false, 9)
abbrev plW (p : Bool × Int) : Value := .tuple #[.bool p.1, .int .i64 p.2]

theorem first_cell (w : World) (cs : Array Value) (t : TypeId) (o : Obj) (i : Nat) : ((w.alloc (.cells cs t)).alloc o).cell? ⟨w.heap.size, i, none⟩ = cs[i]? :=
  cell_of_row _ _ i cs t (0, 0) ((Below.heap_alloc (w.alloc (.cells cs t)) o w.heap.size (by simp)).trans (heap_alloc_new w _))
theorem second_cell (w : World) (cs : Array Value) (t : TypeId) (o : Obj) (i : Nat) : ((w.alloc o).alloc (.cells cs t)).cell? ⟨w.heap.size + 1, i, none⟩ = cs[i]? := by
  have h := heap_alloc_new (w.alloc o) (.cells cs t)
  have e : (w.alloc o).heap.size = w.heap.size + 1 := by simp
  rw [e] at h
  exact cell_of_row _ _ i cs t (0, 0) h
theorem below_store {w w5 : World} {b : Nat} (h : Below w.heap.size w w5) (hb : w.heap.size ≤ b) (v0 v1 v2 v3 : Value) :
    Below w.heap.size w ((((w5.setCell ⟨b, 0, none⟩ v0).setCell ⟨b, 1, none⟩ v1).setCell ⟨b, 2, none⟩ v2).setCell ⟨b, 3, none⟩ v3) :=
  (((h.setCell hb v0).setCell hb v1).setCell hb v2).setCell hb v3
theorem may_size {k : Int} {x : Nat} {s : ByteArray} {r : Int} (h : mayV k x s r = true) : s.size ≤ 4096 := by
  unfold mayV at h
  simp only [Bool.and_eq_true, Bool.or_eq_true, decide_eq_true_iff] at h
  omega
theorem may_bool {x : Nat} {s : ByteArray} {r : Int} (h : mayV 2 x s r = true) : mayV 3 x ByteArray.empty 0 = true := by
  have h1 : numV 2 x = true := by unfold mayV at h; simp only [Bool.and_eq_true] at h; exact h.1.1.2
  unfold numV at h1
  simp at h1
  rcases h1 with rfl | rfl
  · decide +kernel
  · decide +kernel

set_option maxHeartbeats 4000000 in
theorem vPlain_3_4 (x : Nat) (s : ByteArray) (r : Int) (x' : Nat) (s' : ByteArray) (r' : Int) (w : World) (hx : x < 18446744073709551616) (hy : x' < 18446744073709551616) (ma : mayV 3 x s r = true) (mb : mayV 4 x' s' r' = true) :
    Calls Tryd.prog 19 #[val 3 x s r, val 4 x' s' r'] w fun e w' => e = .returned (plW (eqRead x s')) ∧ Below w.heap.size w w' := by
  have qa := Lib.hid (fun w' => vMay_any 3 x s r w' (by decide) hx)
  have qb := Lib.hid (fun w' => vMay_any 4 x' s' r' w' (by decide) hy)
  have oa := Lib.hid (fun w' => vObj_any 3 x s r w')
  have ob := Lib.hid (fun w' => vObj_any 4 x' s' r' w')
  rw [ma] at qa
  rw [mb] at qb
  rw [show isObj 3 = false from by decide] at oa
  rw [show isObj 4 = false from by decide] at ob
  have qr := Lib.hid (fun w' => read_any s' w' (by have := may_size mb; omega))
  have hfe := Lib.hid (fun z (h : Fl.Fits z (readL (trimV s').data.toList).1) => And.intro (Fl.Fits_lt h) (feq_fits (x := x) h))
  unfold eqRead
  generalize readL (trimV s').data.toList = p at *
  obtain ⟨v, e0⟩ := p
  simp only at qr hfe ⊢
  generalize eqO v x = q at hfe ⊢
  unfold val at *
  clear ma mb
  go_enter Tryd.func19, Tryd.ntmps19
  go_wp2_with fail
  refine (qa.out _).mono ?_; rintro e w1 ⟨rfl, b1⟩
  obtain ⟨hc, hf⟩ := bcell b1
  have B1 := Lib.hid b1
  clear b1
  go_wp2_with fail
  refine (qb.out _).mono ?_; rintro e w2 ⟨rfl, b2⟩
  have B2 := Lib.hid (B1.out.trans (b2.mono B1.out.size))
  clear b2 hc hf
  obtain ⟨hc, hf⟩ := bcell B2.out
  go_wp2_with fail
  refine (oa.out _).mono ?_; rintro e w3 ⟨rfl, b3⟩
  have B3 := Lib.hid (B2.out.trans (b3.mono B2.out.size))
  clear b3 hc hf
  obtain ⟨hc, hf⟩ := bcell B3.out
  go_wp2_with fail
  refine (ob.out _).mono ?_; rintro e w4 ⟨rfl, b4⟩
  have B4 := Lib.hid (B3.out.trans (b4.mono B3.out.size))
  clear b4 hc hf
  obtain ⟨hc, hf⟩ := bcell B4.out
  go_wp2_with fail
  refine (qr.out _).mono ?_; rintro e w6 ⟨z, rfl, hz, b6⟩
  obtain ⟨hzl, hzf⟩ := hfe.out z hz
  have e1 := Fl.ord_eql hzl hx
  rw [hzf] at e1
  have B6 := Lib.hid (B4.out.trans (b6.mono B4.out.size))
  clear b6 hc hf hz hzl hzf
  obtain ⟨hc, hf⟩ := bcell B6.out
  by_cases hez : e0 = 0
  · subst hez
    cases q
    · go_wp2
      go_ret2
      exact ⟨rfl, below_three B6.out⟩
    · go_wp2
      go_ret2
      exact ⟨rfl, below_three B6.out⟩
  · have hen : (e0 == 0) = false := by rw [beq_eq_false_iff_ne]; exact hez
    have hd : (decide (e0 = 0) && q) = false := by rw [decide_eq_false hez]; rfl
    have hd' := Lib.hid hd
    clear hd
    go_wp2
    go_ret2
    exact ⟨by rw [hd'.out]; rfl, below_three B6.out⟩

set_option maxHeartbeats 4000000 in
theorem vPlain_2_4 (x : Nat) (s : ByteArray) (r : Int) (x' : Nat) (s' : ByteArray) (r' : Int) (w : World) (hx : x < 18446744073709551616) (hy : x' < 18446744073709551616) (ma : mayV 2 x s r = true) (mb : mayV 4 x' s' r' = true) :
    Calls Tryd.prog 19 #[val 2 x s r, val 4 x' s' r'] w fun e w' => e = .returned (plW (eqRead x s')) ∧ Below w.heap.size w w' := by
  have qa := Lib.hid (fun w' => vMay_any 2 x s r w' (by decide) hx)
  have qb := Lib.hid (fun w' => vMay_any 4 x' s' r' w' (by decide) hy)
  have oa := Lib.hid (fun w' => vObj_any 2 x s r w')
  have ob := Lib.hid (fun w' => vObj_any 4 x' s' r' w')
  rw [ma] at qa
  rw [mb] at qb
  rw [show isObj 2 = false from by decide] at oa
  rw [show isObj 4 = false from by decide] at ob
  have qr := Lib.hid (fun w' => read_any s' w' (by have := may_size mb; omega))
  have hfe := Lib.hid (fun z (h : Fl.Fits z (readL (trimV s').data.toList).1) => And.intro (Fl.Fits_lt h) (feq_fits (x := x) h))
  unfold eqRead
  generalize readL (trimV s').data.toList = p at *
  obtain ⟨v, e0⟩ := p
  simp only at qr hfe ⊢
  generalize eqO v x = q at hfe ⊢
  have qn := Lib.hid (fun w' => vNum_any x w')
  unfold val at *
  clear ma mb
  go_enter Tryd.func19, Tryd.ntmps19
  go_wp2_with fail
  refine (qa.out _).mono ?_; rintro e w1 ⟨rfl, b1⟩
  obtain ⟨hc, hf⟩ := bcell b1
  have B1 := Lib.hid b1
  clear b1
  go_wp2_with fail
  refine (qb.out _).mono ?_; rintro e w2 ⟨rfl, b2⟩
  have B2 := Lib.hid (B1.out.trans (b2.mono B1.out.size))
  clear b2 hc hf
  obtain ⟨hc, hf⟩ := bcell B2.out
  go_wp2_with fail
  refine (oa.out _).mono ?_; rintro e w3 ⟨rfl, b3⟩
  have B3 := Lib.hid (B2.out.trans (b3.mono B2.out.size))
  clear b3 hc hf
  obtain ⟨hc, hf⟩ := bcell B3.out
  go_wp2_with fail
  refine (ob.out _).mono ?_; rintro e w4 ⟨rfl, b4⟩
  have B4 := Lib.hid (B3.out.trans (b4.mono B3.out.size))
  clear b4 hc hf
  obtain ⟨hc, hf⟩ := bcell B4.out
  go_wp2_with fail
  refine (qn.out _).mono ?_; rintro e w5 ⟨rfl, b5⟩
  have B5 := Lib.hid (B4.out.trans (b5.mono B4.out.size))
  clear b5 hc hf
  obtain ⟨hc, hf⟩ := bcell B5.out
  have i0 := (hc w.heap.size 0 (by simp; omega)).trans (first_cell _ _ _ _ 0)
  have i1 := (hc w.heap.size 1 (by simp; omega)).trans (first_cell _ _ _ _ 1)
  have i2 := (hc w.heap.size 2 (by simp; omega)).trans (first_cell _ _ _ _ 2)
  have i3 := (hc w.heap.size 3 (by simp; omega)).trans (first_cell _ _ _ _ 3)
  have j0 := (hc (w.heap.size + 1) 0 (by simp)).trans (second_cell _ _ _ _ 0)
  have j1 := (hc (w.heap.size + 1) 1 (by simp)).trans (second_cell _ _ _ _ 1)
  have j2 := (hc (w.heap.size + 1) 2 (by simp)).trans (second_cell _ _ _ _ 2)
  have j3 := (hc (w.heap.size + 1) 3 (by simp)).trans (second_cell _ _ _ _ 3)
  simp only [List.getElem?_toArray, List.getElem?_cons_zero, List.getElem?_cons_succ] at i0 i1 i2 i3 j0 j1 j2 j3
  clear hc
  have hz5 : w.heap.size + 1 < w5.heap.size := by have := B5.out.size; simp at this; omega
  have hz6 : w.heap.size < w5.heap.size := by omega
  have C5 := Lib.hid (below_store (below_three B5.out) (Nat.le_refl _) (.int .u8 3) (.float .f64 x) (.string ByteArray.empty) (.int .i64 0))
  go_wp2_with fail
  refine (qr.out _).mono ?_; rintro e w6 ⟨z, rfl, hz, b6⟩
  have B6 := Lib.hid (C5.out.trans (b6.mono C5.out.size))
  obtain ⟨hzl, hzf⟩ := hfe.out z hz
  have e1 := Fl.ord_eql hzl hx
  rw [hzf] at e1
  obtain ⟨hc6, hf6⟩ := bcell b6
  clear b6 hz hzl hzf
  by_cases hez : e0 = 0
  · subst hez
    cases q
    · go_wp2
      go_ret2
      exact ⟨rfl, B6.out⟩
    · go_wp2
      go_ret2
      exact ⟨rfl, B6.out⟩
  · have hen : (e0 == 0) = false := by rw [beq_eq_false_iff_ne]; exact hez
    have hd : (decide (e0 = 0) && q) = false := by rw [decide_eq_false hez]; rfl
    have hd' := Lib.hid hd
    clear hd
    go_wp2
    go_ret2
    exact ⟨by rw [hd'.out]; rfl, B6.out⟩

set_option maxHeartbeats 4000000 in
theorem vPlain_4_3 (x : Nat) (s : ByteArray) (r : Int) (x' : Nat) (s' : ByteArray) (r' : Int) (w : World) (hx : x < 18446744073709551616) (hy : x' < 18446744073709551616) (ma : mayV 4 x s r = true) (mb : mayV 3 x' s' r' = true) :
    Calls Tryd.prog 19 #[val 4 x s r, val 3 x' s' r'] w fun e w' => e = .returned (plW (eqRead x' s)) ∧ Below w.heap.size w w' := by
  have qa := Lib.hid (fun w' => vMay_any 4 x s r w' (by decide) hx)
  have qb := Lib.hid (fun w' => vMay_any 3 x' s' r' w' (by decide) hy)
  have oa := Lib.hid (fun w' => vObj_any 4 x s r w')
  have ob := Lib.hid (fun w' => vObj_any 3 x' s' r' w')
  rw [ma] at qa
  rw [mb] at qb
  rw [show isObj 4 = false from by decide] at oa
  rw [show isObj 3 = false from by decide] at ob
  have qp := Lib.hid (fun w' => vPlain_3_4 x' s' r' x s r w' hy hx mb ma)
  generalize eqRead x' s = p at *
  unfold val at *
  clear ma mb hx hy
  go_enter Tryd.func19, Tryd.ntmps19
  go_wp2_with fail
  refine (qa.out _).mono ?_; rintro e w1 ⟨rfl, b1⟩
  obtain ⟨hc, hf⟩ := bcell b1
  have B1 := Lib.hid b1
  clear b1
  go_wp2_with fail
  refine (qb.out _).mono ?_; rintro e w2 ⟨rfl, b2⟩
  have B2 := Lib.hid (B1.out.trans (b2.mono B1.out.size))
  clear b2 hc hf
  obtain ⟨hc, hf⟩ := bcell B2.out
  go_wp2_with fail
  refine (oa.out _).mono ?_; rintro e w3 ⟨rfl, b3⟩
  have B3 := Lib.hid (B2.out.trans (b3.mono B2.out.size))
  clear b3 hc hf
  obtain ⟨hc, hf⟩ := bcell B3.out
  go_wp2_with fail
  refine (ob.out _).mono ?_; rintro e w4 ⟨rfl, b4⟩
  have B4 := Lib.hid (B3.out.trans (b4.mono B3.out.size))
  clear b4 hc hf
  obtain ⟨hc, hf⟩ := bcell B4.out
  go_wp2_with fail
  refine (qp.out _).mono ?_; rintro e w5 ⟨rfl, b5⟩
  have B5 := Lib.hid (B4.out.trans (b5.mono B4.out.size))
  clear b5 hc hf
  obtain ⟨hc, hf⟩ := bcell B5.out
  go_wp2
  go_ret2
  exact ⟨rfl, below_three B5.out⟩

set_option maxHeartbeats 4000000 in
theorem vPlain_4_2 (x : Nat) (s : ByteArray) (r : Int) (x' : Nat) (s' : ByteArray) (r' : Int) (w : World) (hx : x < 18446744073709551616) (hy : x' < 18446744073709551616) (ma : mayV 4 x s r = true) (mb : mayV 2 x' s' r' = true) :
    Calls Tryd.prog 19 #[val 4 x s r, val 2 x' s' r'] w fun e w' => e = .returned (plW (eqRead x' s)) ∧ Below w.heap.size w w' := by
  have qa := Lib.hid (fun w' => vMay_any 4 x s r w' (by decide) hx)
  have qb := Lib.hid (fun w' => vMay_any 2 x' s' r' w' (by decide) hy)
  have oa := Lib.hid (fun w' => vObj_any 4 x s r w')
  have ob := Lib.hid (fun w' => vObj_any 2 x' s' r' w')
  rw [ma] at qa
  rw [mb] at qb
  rw [show isObj 4 = false from by decide] at oa
  rw [show isObj 2 = false from by decide] at ob
  have qp := Lib.hid (fun w' => vPlain_3_4 x' ByteArray.empty 0 x s r w' hy hx (may_bool mb) ma)
  have qn := Lib.hid (fun w' => vNum_any x' w')
  generalize eqRead x' s = p at *
  unfold val at *
  clear ma mb hx hy
  go_enter Tryd.func19, Tryd.ntmps19
  go_wp2_with fail
  refine (qa.out _).mono ?_; rintro e w1 ⟨rfl, b1⟩
  obtain ⟨hc, hf⟩ := bcell b1
  have B1 := Lib.hid b1
  clear b1
  go_wp2_with fail
  refine (qb.out _).mono ?_; rintro e w2 ⟨rfl, b2⟩
  have B2 := Lib.hid (B1.out.trans (b2.mono B1.out.size))
  clear b2 hc hf
  obtain ⟨hc, hf⟩ := bcell B2.out
  go_wp2_with fail
  refine (oa.out _).mono ?_; rintro e w3 ⟨rfl, b3⟩
  have B3 := Lib.hid (B2.out.trans (b3.mono B2.out.size))
  clear b3 hc hf
  obtain ⟨hc, hf⟩ := bcell B3.out
  go_wp2_with fail
  refine (ob.out _).mono ?_; rintro e w4 ⟨rfl, b4⟩
  have B4 := Lib.hid (B3.out.trans (b4.mono B3.out.size))
  clear b4 hc hf
  obtain ⟨hc, hf⟩ := bcell B4.out
  go_wp2_with fail
  refine (qn.out _).mono ?_; rintro e w5 ⟨rfl, b5⟩
  have B5 := Lib.hid (B4.out.trans (b5.mono B4.out.size))
  clear b5 hc hf
  obtain ⟨hc, hf⟩ := bcell B5.out
  have hz5 : w.heap.size + 1 < w5.heap.size := by have := B5.out.size; simp at this; omega
  have hz6 : w.heap.size < w5.heap.size := by omega
  have C5 := Lib.hid (below_store (below_three B5.out) (Nat.le_succ _) (.int .u8 3) (.float .f64 x') (.string ByteArray.empty) (.int .i64 0))
  go_wp2_with fail
  refine (qp.out _).mono ?_; rintro e w6 ⟨rfl, b6⟩
  have B6 := Lib.hid (C5.out.trans (b6.mono C5.out.size))
  go_wp2
  go_ret2
  exact ⟨rfl, B6.out⟩

set_option maxHeartbeats 4000000 in
theorem vPlain_0_0 (x : Nat) (s : ByteArray) (r : Int) (x' : Nat) (s' : ByteArray) (r' : Int) (w : World) (hx : x < 18446744073709551616) (hy : x' < 18446744073709551616) (ma : mayV 0 x s r = true) (mb : mayV 0 x' s' r' = true) :
    Calls Tryd.prog 19 #[val 0 x s r, val 0 x' s' r'] w fun e w' => e = .returned (plW ((strictV 0 x s r 0 x' s' r', 0))) ∧ Below w.heap.size w w' := by
  have qa := Lib.hid (fun w' => vMay_any 0 x s r w' (by decide) hx)
  have qb := Lib.hid (fun w' => vMay_any 0 x' s' r' w' (by decide) hy)
  have oa := Lib.hid (fun w' => vObj_any 0 x s r w')
  have ob := Lib.hid (fun w' => vObj_any 0 x' s' r' w')
  rw [ma] at qa
  rw [mb] at qb
  rw [show isObj 0 = false from by decide] at oa
  rw [show isObj 0 = false from by decide] at ob
  have qs := Lib.hid (fun w' => vStrict_any 0 x s r 0 x' s' r' w' hx hy)
  generalize strictV 0 x s r 0 x' s' r' = V at *
  unfold val at *
  clear ma mb hx hy
  go_enter Tryd.func19, Tryd.ntmps19
  go_wp2_with fail
  refine (qa.out _).mono ?_; rintro e w1 ⟨rfl, b1⟩
  obtain ⟨hc, hf⟩ := bcell b1
  have B1 := Lib.hid b1
  clear b1
  go_wp2_with fail
  refine (qb.out _).mono ?_; rintro e w2 ⟨rfl, b2⟩
  have B2 := Lib.hid (B1.out.trans (b2.mono B1.out.size))
  clear b2 hc hf
  obtain ⟨hc, hf⟩ := bcell B2.out
  go_wp2_with fail
  refine (oa.out _).mono ?_; rintro e w3 ⟨rfl, b3⟩
  have B3 := Lib.hid (B2.out.trans (b3.mono B2.out.size))
  clear b3 hc hf
  obtain ⟨hc, hf⟩ := bcell B3.out
  go_wp2_with fail
  refine (ob.out _).mono ?_; rintro e w4 ⟨rfl, b4⟩
  have B4 := Lib.hid (B3.out.trans (b4.mono B3.out.size))
  clear b4 hc hf
  obtain ⟨hc, hf⟩ := bcell B4.out
  go_wp2_with fail
  refine (qs.out _).mono ?_; rintro e w5 ⟨rfl, b5⟩
  have B5 := Lib.hid (B4.out.trans (b5.mono B4.out.size))
  clear b5 hc hf
  obtain ⟨hc, hf⟩ := bcell B5.out
  go_wp2
  go_ret2
  exact ⟨rfl, below_three B5.out⟩

set_option maxHeartbeats 4000000 in
theorem vPlain_0_1 (x : Nat) (s : ByteArray) (r : Int) (x' : Nat) (s' : ByteArray) (r' : Int) (w : World) (hx : x < 18446744073709551616) (hy : x' < 18446744073709551616) (ma : mayV 0 x s r = true) (mb : mayV 1 x' s' r' = true) :
    Calls Tryd.prog 19 #[val 0 x s r, val 1 x' s' r'] w fun e w' => e = .returned (plW ((true, 0))) ∧ Below w.heap.size w w' := by
  have qa := Lib.hid (fun w' => vMay_any 0 x s r w' (by decide) hx)
  have qb := Lib.hid (fun w' => vMay_any 1 x' s' r' w' (by decide) hy)
  have oa := Lib.hid (fun w' => vObj_any 0 x s r w')
  have ob := Lib.hid (fun w' => vObj_any 1 x' s' r' w')
  rw [ma] at qa
  rw [mb] at qb
  rw [show isObj 0 = false from by decide] at oa
  rw [show isObj 1 = false from by decide] at ob
  unfold val at *
  clear ma mb hx hy
  go_enter Tryd.func19, Tryd.ntmps19
  go_wp2_with fail
  refine (qa.out _).mono ?_; rintro e w1 ⟨rfl, b1⟩
  obtain ⟨hc, hf⟩ := bcell b1
  have B1 := Lib.hid b1
  clear b1
  go_wp2_with fail
  refine (qb.out _).mono ?_; rintro e w2 ⟨rfl, b2⟩
  have B2 := Lib.hid (B1.out.trans (b2.mono B1.out.size))
  clear b2 hc hf
  obtain ⟨hc, hf⟩ := bcell B2.out
  go_wp2_with fail
  refine (oa.out _).mono ?_; rintro e w3 ⟨rfl, b3⟩
  have B3 := Lib.hid (B2.out.trans (b3.mono B2.out.size))
  clear b3 hc hf
  obtain ⟨hc, hf⟩ := bcell B3.out
  go_wp2_with fail
  refine (ob.out _).mono ?_; rintro e w4 ⟨rfl, b4⟩
  have B4 := Lib.hid (B3.out.trans (b4.mono B3.out.size))
  clear b4 hc hf
  obtain ⟨hc, hf⟩ := bcell B4.out
  go_wp2
  go_ret2
  exact ⟨rfl, below_three B4.out⟩

set_option maxHeartbeats 4000000 in
theorem vPlain_0_2 (x : Nat) (s : ByteArray) (r : Int) (x' : Nat) (s' : ByteArray) (r' : Int) (w : World) (hx : x < 18446744073709551616) (hy : x' < 18446744073709551616) (ma : mayV 0 x s r = true) (mb : mayV 2 x' s' r' = true) :
    Calls Tryd.prog 19 #[val 0 x s r, val 2 x' s' r'] w fun e w' => e = .returned (plW ((false, 0))) ∧ Below w.heap.size w w' := by
  have qa := Lib.hid (fun w' => vMay_any 0 x s r w' (by decide) hx)
  have qb := Lib.hid (fun w' => vMay_any 2 x' s' r' w' (by decide) hy)
  have oa := Lib.hid (fun w' => vObj_any 0 x s r w')
  have ob := Lib.hid (fun w' => vObj_any 2 x' s' r' w')
  rw [ma] at qa
  rw [mb] at qb
  rw [show isObj 0 = false from by decide] at oa
  rw [show isObj 2 = false from by decide] at ob
  have qn := Lib.hid (fun w' => vNum_any x' w')
  unfold val at *
  clear ma mb hx hy
  go_enter Tryd.func19, Tryd.ntmps19
  go_wp2_with fail
  refine (qa.out _).mono ?_; rintro e w1 ⟨rfl, b1⟩
  obtain ⟨hc, hf⟩ := bcell b1
  have B1 := Lib.hid b1
  clear b1
  go_wp2_with fail
  refine (qb.out _).mono ?_; rintro e w2 ⟨rfl, b2⟩
  have B2 := Lib.hid (B1.out.trans (b2.mono B1.out.size))
  clear b2 hc hf
  obtain ⟨hc, hf⟩ := bcell B2.out
  go_wp2_with fail
  refine (oa.out _).mono ?_; rintro e w3 ⟨rfl, b3⟩
  have B3 := Lib.hid (B2.out.trans (b3.mono B2.out.size))
  clear b3 hc hf
  obtain ⟨hc, hf⟩ := bcell B3.out
  go_wp2_with fail
  refine (ob.out _).mono ?_; rintro e w4 ⟨rfl, b4⟩
  have B4 := Lib.hid (B3.out.trans (b4.mono B3.out.size))
  clear b4 hc hf
  obtain ⟨hc, hf⟩ := bcell B4.out
  go_wp2_with fail
  refine (qn.out _).mono ?_; rintro e w5 ⟨rfl, b5⟩
  have B5 := Lib.hid (B4.out.trans (b5.mono B4.out.size))
  clear b5 hc hf
  obtain ⟨hc, hf⟩ := bcell B5.out
  have hz5 : w.heap.size + 1 < w5.heap.size := by have := B5.out.size; simp at this; omega
  have hz6 : w.heap.size < w5.heap.size := by omega
  have C5 := Lib.hid (below_store (below_three B5.out) (Nat.le_succ _) (.int .u8 3) (.float .f64 x') (.string ByteArray.empty) (.int .i64 0))
  go_wp2
  go_ret2
  exact ⟨rfl, C5.out⟩

set_option maxHeartbeats 4000000 in
theorem vPlain_0_3 (x : Nat) (s : ByteArray) (r : Int) (x' : Nat) (s' : ByteArray) (r' : Int) (w : World) (hx : x < 18446744073709551616) (hy : x' < 18446744073709551616) (ma : mayV 0 x s r = true) (mb : mayV 3 x' s' r' = true) :
    Calls Tryd.prog 19 #[val 0 x s r, val 3 x' s' r'] w fun e w' => e = .returned (plW ((false, 0))) ∧ Below w.heap.size w w' := by
  have qa := Lib.hid (fun w' => vMay_any 0 x s r w' (by decide) hx)
  have qb := Lib.hid (fun w' => vMay_any 3 x' s' r' w' (by decide) hy)
  have oa := Lib.hid (fun w' => vObj_any 0 x s r w')
  have ob := Lib.hid (fun w' => vObj_any 3 x' s' r' w')
  rw [ma] at qa
  rw [mb] at qb
  rw [show isObj 0 = false from by decide] at oa
  rw [show isObj 3 = false from by decide] at ob
  unfold val at *
  clear ma mb hx hy
  go_enter Tryd.func19, Tryd.ntmps19
  go_wp2_with fail
  refine (qa.out _).mono ?_; rintro e w1 ⟨rfl, b1⟩
  obtain ⟨hc, hf⟩ := bcell b1
  have B1 := Lib.hid b1
  clear b1
  go_wp2_with fail
  refine (qb.out _).mono ?_; rintro e w2 ⟨rfl, b2⟩
  have B2 := Lib.hid (B1.out.trans (b2.mono B1.out.size))
  clear b2 hc hf
  obtain ⟨hc, hf⟩ := bcell B2.out
  go_wp2_with fail
  refine (oa.out _).mono ?_; rintro e w3 ⟨rfl, b3⟩
  have B3 := Lib.hid (B2.out.trans (b3.mono B2.out.size))
  clear b3 hc hf
  obtain ⟨hc, hf⟩ := bcell B3.out
  go_wp2_with fail
  refine (ob.out _).mono ?_; rintro e w4 ⟨rfl, b4⟩
  have B4 := Lib.hid (B3.out.trans (b4.mono B3.out.size))
  clear b4 hc hf
  obtain ⟨hc, hf⟩ := bcell B4.out
  go_wp2
  go_ret2
  exact ⟨rfl, below_three B4.out⟩

set_option maxHeartbeats 4000000 in
theorem vPlain_0_4 (x : Nat) (s : ByteArray) (r : Int) (x' : Nat) (s' : ByteArray) (r' : Int) (w : World) (hx : x < 18446744073709551616) (hy : x' < 18446744073709551616) (ma : mayV 0 x s r = true) (mb : mayV 4 x' s' r' = true) :
    Calls Tryd.prog 19 #[val 0 x s r, val 4 x' s' r'] w fun e w' => e = .returned (plW ((false, 0))) ∧ Below w.heap.size w w' := by
  have qa := Lib.hid (fun w' => vMay_any 0 x s r w' (by decide) hx)
  have qb := Lib.hid (fun w' => vMay_any 4 x' s' r' w' (by decide) hy)
  have oa := Lib.hid (fun w' => vObj_any 0 x s r w')
  have ob := Lib.hid (fun w' => vObj_any 4 x' s' r' w')
  rw [ma] at qa
  rw [mb] at qb
  rw [show isObj 0 = false from by decide] at oa
  rw [show isObj 4 = false from by decide] at ob
  unfold val at *
  clear ma mb hx hy
  go_enter Tryd.func19, Tryd.ntmps19
  go_wp2_with fail
  refine (qa.out _).mono ?_; rintro e w1 ⟨rfl, b1⟩
  obtain ⟨hc, hf⟩ := bcell b1
  have B1 := Lib.hid b1
  clear b1
  go_wp2_with fail
  refine (qb.out _).mono ?_; rintro e w2 ⟨rfl, b2⟩
  have B2 := Lib.hid (B1.out.trans (b2.mono B1.out.size))
  clear b2 hc hf
  obtain ⟨hc, hf⟩ := bcell B2.out
  go_wp2_with fail
  refine (oa.out _).mono ?_; rintro e w3 ⟨rfl, b3⟩
  have B3 := Lib.hid (B2.out.trans (b3.mono B2.out.size))
  clear b3 hc hf
  obtain ⟨hc, hf⟩ := bcell B3.out
  go_wp2_with fail
  refine (ob.out _).mono ?_; rintro e w4 ⟨rfl, b4⟩
  have B4 := Lib.hid (B3.out.trans (b4.mono B3.out.size))
  clear b4 hc hf
  obtain ⟨hc, hf⟩ := bcell B4.out
  go_wp2
  go_ret2
  exact ⟨rfl, below_three B4.out⟩

set_option maxHeartbeats 4000000 in
theorem vPlain_0_5 (x : Nat) (s : ByteArray) (r : Int) (x' : Nat) (s' : ByteArray) (r' : Int) (w : World) (hx : x < 18446744073709551616) (hy : x' < 18446744073709551616) (ma : mayV 0 x s r = true) (mb : mayV 5 x' s' r' = true) :
    Calls Tryd.prog 19 #[val 0 x s r, val 5 x' s' r'] w fun e w' => e = .returned (plW ((false, 0))) ∧ Below w.heap.size w w' := by
  have qa := Lib.hid (fun w' => vMay_any 0 x s r w' (by decide) hx)
  have qb := Lib.hid (fun w' => vMay_any 5 x' s' r' w' (by decide) hy)
  have oa := Lib.hid (fun w' => vObj_any 0 x s r w')
  have ob := Lib.hid (fun w' => vObj_any 5 x' s' r' w')
  rw [ma] at qa
  rw [mb] at qb
  rw [show isObj 0 = false from by decide] at oa
  rw [show isObj 5 = false from by decide] at ob
  unfold val at *
  clear ma mb hx hy
  go_enter Tryd.func19, Tryd.ntmps19
  go_wp2_with fail
  refine (qa.out _).mono ?_; rintro e w1 ⟨rfl, b1⟩
  obtain ⟨hc, hf⟩ := bcell b1
  have B1 := Lib.hid b1
  clear b1
  go_wp2_with fail
  refine (qb.out _).mono ?_; rintro e w2 ⟨rfl, b2⟩
  have B2 := Lib.hid (B1.out.trans (b2.mono B1.out.size))
  clear b2 hc hf
  obtain ⟨hc, hf⟩ := bcell B2.out
  go_wp2_with fail
  refine (oa.out _).mono ?_; rintro e w3 ⟨rfl, b3⟩
  have B3 := Lib.hid (B2.out.trans (b3.mono B2.out.size))
  clear b3 hc hf
  obtain ⟨hc, hf⟩ := bcell B3.out
  go_wp2_with fail
  refine (ob.out _).mono ?_; rintro e w4 ⟨rfl, b4⟩
  have B4 := Lib.hid (B3.out.trans (b4.mono B3.out.size))
  clear b4 hc hf
  obtain ⟨hc, hf⟩ := bcell B4.out
  go_wp2
  go_ret2
  exact ⟨rfl, below_three B4.out⟩

set_option maxHeartbeats 4000000 in
theorem vPlain_1_0 (x : Nat) (s : ByteArray) (r : Int) (x' : Nat) (s' : ByteArray) (r' : Int) (w : World) (hx : x < 18446744073709551616) (hy : x' < 18446744073709551616) (ma : mayV 1 x s r = true) (mb : mayV 0 x' s' r' = true) :
    Calls Tryd.prog 19 #[val 1 x s r, val 0 x' s' r'] w fun e w' => e = .returned (plW ((true, 0))) ∧ Below w.heap.size w w' := by
  have qa := Lib.hid (fun w' => vMay_any 1 x s r w' (by decide) hx)
  have qb := Lib.hid (fun w' => vMay_any 0 x' s' r' w' (by decide) hy)
  have oa := Lib.hid (fun w' => vObj_any 1 x s r w')
  have ob := Lib.hid (fun w' => vObj_any 0 x' s' r' w')
  rw [ma] at qa
  rw [mb] at qb
  rw [show isObj 1 = false from by decide] at oa
  rw [show isObj 0 = false from by decide] at ob
  unfold val at *
  clear ma mb hx hy
  go_enter Tryd.func19, Tryd.ntmps19
  go_wp2_with fail
  refine (qa.out _).mono ?_; rintro e w1 ⟨rfl, b1⟩
  obtain ⟨hc, hf⟩ := bcell b1
  have B1 := Lib.hid b1
  clear b1
  go_wp2_with fail
  refine (qb.out _).mono ?_; rintro e w2 ⟨rfl, b2⟩
  have B2 := Lib.hid (B1.out.trans (b2.mono B1.out.size))
  clear b2 hc hf
  obtain ⟨hc, hf⟩ := bcell B2.out
  go_wp2_with fail
  refine (oa.out _).mono ?_; rintro e w3 ⟨rfl, b3⟩
  have B3 := Lib.hid (B2.out.trans (b3.mono B2.out.size))
  clear b3 hc hf
  obtain ⟨hc, hf⟩ := bcell B3.out
  go_wp2_with fail
  refine (ob.out _).mono ?_; rintro e w4 ⟨rfl, b4⟩
  have B4 := Lib.hid (B3.out.trans (b4.mono B3.out.size))
  clear b4 hc hf
  obtain ⟨hc, hf⟩ := bcell B4.out
  go_wp2
  go_ret2
  exact ⟨rfl, below_three B4.out⟩

set_option maxHeartbeats 4000000 in
theorem vPlain_1_1 (x : Nat) (s : ByteArray) (r : Int) (x' : Nat) (s' : ByteArray) (r' : Int) (w : World) (hx : x < 18446744073709551616) (hy : x' < 18446744073709551616) (ma : mayV 1 x s r = true) (mb : mayV 1 x' s' r' = true) :
    Calls Tryd.prog 19 #[val 1 x s r, val 1 x' s' r'] w fun e w' => e = .returned (plW ((strictV 1 x s r 1 x' s' r', 0))) ∧ Below w.heap.size w w' := by
  have qa := Lib.hid (fun w' => vMay_any 1 x s r w' (by decide) hx)
  have qb := Lib.hid (fun w' => vMay_any 1 x' s' r' w' (by decide) hy)
  have oa := Lib.hid (fun w' => vObj_any 1 x s r w')
  have ob := Lib.hid (fun w' => vObj_any 1 x' s' r' w')
  rw [ma] at qa
  rw [mb] at qb
  rw [show isObj 1 = false from by decide] at oa
  rw [show isObj 1 = false from by decide] at ob
  have qs := Lib.hid (fun w' => vStrict_any 1 x s r 1 x' s' r' w' hx hy)
  generalize strictV 1 x s r 1 x' s' r' = V at *
  unfold val at *
  clear ma mb hx hy
  go_enter Tryd.func19, Tryd.ntmps19
  go_wp2_with fail
  refine (qa.out _).mono ?_; rintro e w1 ⟨rfl, b1⟩
  obtain ⟨hc, hf⟩ := bcell b1
  have B1 := Lib.hid b1
  clear b1
  go_wp2_with fail
  refine (qb.out _).mono ?_; rintro e w2 ⟨rfl, b2⟩
  have B2 := Lib.hid (B1.out.trans (b2.mono B1.out.size))
  clear b2 hc hf
  obtain ⟨hc, hf⟩ := bcell B2.out
  go_wp2_with fail
  refine (oa.out _).mono ?_; rintro e w3 ⟨rfl, b3⟩
  have B3 := Lib.hid (B2.out.trans (b3.mono B2.out.size))
  clear b3 hc hf
  obtain ⟨hc, hf⟩ := bcell B3.out
  go_wp2_with fail
  refine (ob.out _).mono ?_; rintro e w4 ⟨rfl, b4⟩
  have B4 := Lib.hid (B3.out.trans (b4.mono B3.out.size))
  clear b4 hc hf
  obtain ⟨hc, hf⟩ := bcell B4.out
  go_wp2_with fail
  refine (qs.out _).mono ?_; rintro e w5 ⟨rfl, b5⟩
  have B5 := Lib.hid (B4.out.trans (b5.mono B4.out.size))
  clear b5 hc hf
  obtain ⟨hc, hf⟩ := bcell B5.out
  go_wp2
  go_ret2
  exact ⟨rfl, below_three B5.out⟩

set_option maxHeartbeats 4000000 in
theorem vPlain_1_2 (x : Nat) (s : ByteArray) (r : Int) (x' : Nat) (s' : ByteArray) (r' : Int) (w : World) (hx : x < 18446744073709551616) (hy : x' < 18446744073709551616) (ma : mayV 1 x s r = true) (mb : mayV 2 x' s' r' = true) :
    Calls Tryd.prog 19 #[val 1 x s r, val 2 x' s' r'] w fun e w' => e = .returned (plW ((false, 0))) ∧ Below w.heap.size w w' := by
  have qa := Lib.hid (fun w' => vMay_any 1 x s r w' (by decide) hx)
  have qb := Lib.hid (fun w' => vMay_any 2 x' s' r' w' (by decide) hy)
  have oa := Lib.hid (fun w' => vObj_any 1 x s r w')
  have ob := Lib.hid (fun w' => vObj_any 2 x' s' r' w')
  rw [ma] at qa
  rw [mb] at qb
  rw [show isObj 1 = false from by decide] at oa
  rw [show isObj 2 = false from by decide] at ob
  have qn := Lib.hid (fun w' => vNum_any x' w')
  unfold val at *
  clear ma mb hx hy
  go_enter Tryd.func19, Tryd.ntmps19
  go_wp2_with fail
  refine (qa.out _).mono ?_; rintro e w1 ⟨rfl, b1⟩
  obtain ⟨hc, hf⟩ := bcell b1
  have B1 := Lib.hid b1
  clear b1
  go_wp2_with fail
  refine (qb.out _).mono ?_; rintro e w2 ⟨rfl, b2⟩
  have B2 := Lib.hid (B1.out.trans (b2.mono B1.out.size))
  clear b2 hc hf
  obtain ⟨hc, hf⟩ := bcell B2.out
  go_wp2_with fail
  refine (oa.out _).mono ?_; rintro e w3 ⟨rfl, b3⟩
  have B3 := Lib.hid (B2.out.trans (b3.mono B2.out.size))
  clear b3 hc hf
  obtain ⟨hc, hf⟩ := bcell B3.out
  go_wp2_with fail
  refine (ob.out _).mono ?_; rintro e w4 ⟨rfl, b4⟩
  have B4 := Lib.hid (B3.out.trans (b4.mono B3.out.size))
  clear b4 hc hf
  obtain ⟨hc, hf⟩ := bcell B4.out
  go_wp2_with fail
  refine (qn.out _).mono ?_; rintro e w5 ⟨rfl, b5⟩
  have B5 := Lib.hid (B4.out.trans (b5.mono B4.out.size))
  clear b5 hc hf
  obtain ⟨hc, hf⟩ := bcell B5.out
  have hz5 : w.heap.size + 1 < w5.heap.size := by have := B5.out.size; simp at this; omega
  have hz6 : w.heap.size < w5.heap.size := by omega
  have C5 := Lib.hid (below_store (below_three B5.out) (Nat.le_succ _) (.int .u8 3) (.float .f64 x') (.string ByteArray.empty) (.int .i64 0))
  go_wp2
  go_ret2
  exact ⟨rfl, C5.out⟩

set_option maxHeartbeats 4000000 in
theorem vPlain_1_3 (x : Nat) (s : ByteArray) (r : Int) (x' : Nat) (s' : ByteArray) (r' : Int) (w : World) (hx : x < 18446744073709551616) (hy : x' < 18446744073709551616) (ma : mayV 1 x s r = true) (mb : mayV 3 x' s' r' = true) :
    Calls Tryd.prog 19 #[val 1 x s r, val 3 x' s' r'] w fun e w' => e = .returned (plW ((false, 0))) ∧ Below w.heap.size w w' := by
  have qa := Lib.hid (fun w' => vMay_any 1 x s r w' (by decide) hx)
  have qb := Lib.hid (fun w' => vMay_any 3 x' s' r' w' (by decide) hy)
  have oa := Lib.hid (fun w' => vObj_any 1 x s r w')
  have ob := Lib.hid (fun w' => vObj_any 3 x' s' r' w')
  rw [ma] at qa
  rw [mb] at qb
  rw [show isObj 1 = false from by decide] at oa
  rw [show isObj 3 = false from by decide] at ob
  unfold val at *
  clear ma mb hx hy
  go_enter Tryd.func19, Tryd.ntmps19
  go_wp2_with fail
  refine (qa.out _).mono ?_; rintro e w1 ⟨rfl, b1⟩
  obtain ⟨hc, hf⟩ := bcell b1
  have B1 := Lib.hid b1
  clear b1
  go_wp2_with fail
  refine (qb.out _).mono ?_; rintro e w2 ⟨rfl, b2⟩
  have B2 := Lib.hid (B1.out.trans (b2.mono B1.out.size))
  clear b2 hc hf
  obtain ⟨hc, hf⟩ := bcell B2.out
  go_wp2_with fail
  refine (oa.out _).mono ?_; rintro e w3 ⟨rfl, b3⟩
  have B3 := Lib.hid (B2.out.trans (b3.mono B2.out.size))
  clear b3 hc hf
  obtain ⟨hc, hf⟩ := bcell B3.out
  go_wp2_with fail
  refine (ob.out _).mono ?_; rintro e w4 ⟨rfl, b4⟩
  have B4 := Lib.hid (B3.out.trans (b4.mono B3.out.size))
  clear b4 hc hf
  obtain ⟨hc, hf⟩ := bcell B4.out
  go_wp2
  go_ret2
  exact ⟨rfl, below_three B4.out⟩

set_option maxHeartbeats 4000000 in
theorem vPlain_1_4 (x : Nat) (s : ByteArray) (r : Int) (x' : Nat) (s' : ByteArray) (r' : Int) (w : World) (hx : x < 18446744073709551616) (hy : x' < 18446744073709551616) (ma : mayV 1 x s r = true) (mb : mayV 4 x' s' r' = true) :
    Calls Tryd.prog 19 #[val 1 x s r, val 4 x' s' r'] w fun e w' => e = .returned (plW ((false, 0))) ∧ Below w.heap.size w w' := by
  have qa := Lib.hid (fun w' => vMay_any 1 x s r w' (by decide) hx)
  have qb := Lib.hid (fun w' => vMay_any 4 x' s' r' w' (by decide) hy)
  have oa := Lib.hid (fun w' => vObj_any 1 x s r w')
  have ob := Lib.hid (fun w' => vObj_any 4 x' s' r' w')
  rw [ma] at qa
  rw [mb] at qb
  rw [show isObj 1 = false from by decide] at oa
  rw [show isObj 4 = false from by decide] at ob
  unfold val at *
  clear ma mb hx hy
  go_enter Tryd.func19, Tryd.ntmps19
  go_wp2_with fail
  refine (qa.out _).mono ?_; rintro e w1 ⟨rfl, b1⟩
  obtain ⟨hc, hf⟩ := bcell b1
  have B1 := Lib.hid b1
  clear b1
  go_wp2_with fail
  refine (qb.out _).mono ?_; rintro e w2 ⟨rfl, b2⟩
  have B2 := Lib.hid (B1.out.trans (b2.mono B1.out.size))
  clear b2 hc hf
  obtain ⟨hc, hf⟩ := bcell B2.out
  go_wp2_with fail
  refine (oa.out _).mono ?_; rintro e w3 ⟨rfl, b3⟩
  have B3 := Lib.hid (B2.out.trans (b3.mono B2.out.size))
  clear b3 hc hf
  obtain ⟨hc, hf⟩ := bcell B3.out
  go_wp2_with fail
  refine (ob.out _).mono ?_; rintro e w4 ⟨rfl, b4⟩
  have B4 := Lib.hid (B3.out.trans (b4.mono B3.out.size))
  clear b4 hc hf
  obtain ⟨hc, hf⟩ := bcell B4.out
  go_wp2
  go_ret2
  exact ⟨rfl, below_three B4.out⟩

set_option maxHeartbeats 4000000 in
theorem vPlain_1_5 (x : Nat) (s : ByteArray) (r : Int) (x' : Nat) (s' : ByteArray) (r' : Int) (w : World) (hx : x < 18446744073709551616) (hy : x' < 18446744073709551616) (ma : mayV 1 x s r = true) (mb : mayV 5 x' s' r' = true) :
    Calls Tryd.prog 19 #[val 1 x s r, val 5 x' s' r'] w fun e w' => e = .returned (plW ((false, 0))) ∧ Below w.heap.size w w' := by
  have qa := Lib.hid (fun w' => vMay_any 1 x s r w' (by decide) hx)
  have qb := Lib.hid (fun w' => vMay_any 5 x' s' r' w' (by decide) hy)
  have oa := Lib.hid (fun w' => vObj_any 1 x s r w')
  have ob := Lib.hid (fun w' => vObj_any 5 x' s' r' w')
  rw [ma] at qa
  rw [mb] at qb
  rw [show isObj 1 = false from by decide] at oa
  rw [show isObj 5 = false from by decide] at ob
  unfold val at *
  clear ma mb hx hy
  go_enter Tryd.func19, Tryd.ntmps19
  go_wp2_with fail
  refine (qa.out _).mono ?_; rintro e w1 ⟨rfl, b1⟩
  obtain ⟨hc, hf⟩ := bcell b1
  have B1 := Lib.hid b1
  clear b1
  go_wp2_with fail
  refine (qb.out _).mono ?_; rintro e w2 ⟨rfl, b2⟩
  have B2 := Lib.hid (B1.out.trans (b2.mono B1.out.size))
  clear b2 hc hf
  obtain ⟨hc, hf⟩ := bcell B2.out
  go_wp2_with fail
  refine (oa.out _).mono ?_; rintro e w3 ⟨rfl, b3⟩
  have B3 := Lib.hid (B2.out.trans (b3.mono B2.out.size))
  clear b3 hc hf
  obtain ⟨hc, hf⟩ := bcell B3.out
  go_wp2_with fail
  refine (ob.out _).mono ?_; rintro e w4 ⟨rfl, b4⟩
  have B4 := Lib.hid (B3.out.trans (b4.mono B3.out.size))
  clear b4 hc hf
  obtain ⟨hc, hf⟩ := bcell B4.out
  go_wp2
  go_ret2
  exact ⟨rfl, below_three B4.out⟩

set_option maxHeartbeats 4000000 in
theorem vPlain_2_0 (x : Nat) (s : ByteArray) (r : Int) (x' : Nat) (s' : ByteArray) (r' : Int) (w : World) (hx : x < 18446744073709551616) (hy : x' < 18446744073709551616) (ma : mayV 2 x s r = true) (mb : mayV 0 x' s' r' = true) :
    Calls Tryd.prog 19 #[val 2 x s r, val 0 x' s' r'] w fun e w' => e = .returned (plW ((false, 0))) ∧ Below w.heap.size w w' := by
  have qa := Lib.hid (fun w' => vMay_any 2 x s r w' (by decide) hx)
  have qb := Lib.hid (fun w' => vMay_any 0 x' s' r' w' (by decide) hy)
  have oa := Lib.hid (fun w' => vObj_any 2 x s r w')
  have ob := Lib.hid (fun w' => vObj_any 0 x' s' r' w')
  rw [ma] at qa
  rw [mb] at qb
  rw [show isObj 2 = false from by decide] at oa
  rw [show isObj 0 = false from by decide] at ob
  have qn := Lib.hid (fun w' => vNum_any x w')
  unfold val at *
  clear ma mb hx hy
  go_enter Tryd.func19, Tryd.ntmps19
  go_wp2_with fail
  refine (qa.out _).mono ?_; rintro e w1 ⟨rfl, b1⟩
  obtain ⟨hc, hf⟩ := bcell b1
  have B1 := Lib.hid b1
  clear b1
  go_wp2_with fail
  refine (qb.out _).mono ?_; rintro e w2 ⟨rfl, b2⟩
  have B2 := Lib.hid (B1.out.trans (b2.mono B1.out.size))
  clear b2 hc hf
  obtain ⟨hc, hf⟩ := bcell B2.out
  go_wp2_with fail
  refine (oa.out _).mono ?_; rintro e w3 ⟨rfl, b3⟩
  have B3 := Lib.hid (B2.out.trans (b3.mono B2.out.size))
  clear b3 hc hf
  obtain ⟨hc, hf⟩ := bcell B3.out
  go_wp2_with fail
  refine (ob.out _).mono ?_; rintro e w4 ⟨rfl, b4⟩
  have B4 := Lib.hid (B3.out.trans (b4.mono B3.out.size))
  clear b4 hc hf
  obtain ⟨hc, hf⟩ := bcell B4.out
  go_wp2_with fail
  refine (qn.out _).mono ?_; rintro e w5 ⟨rfl, b5⟩
  have B5 := Lib.hid (B4.out.trans (b5.mono B4.out.size))
  clear b5 hc hf
  obtain ⟨hc, hf⟩ := bcell B5.out
  have i0 := (hc w.heap.size 0 (by simp; omega)).trans (first_cell _ _ _ _ 0)
  have i1 := (hc w.heap.size 1 (by simp; omega)).trans (first_cell _ _ _ _ 1)
  have i2 := (hc w.heap.size 2 (by simp; omega)).trans (first_cell _ _ _ _ 2)
  have i3 := (hc w.heap.size 3 (by simp; omega)).trans (first_cell _ _ _ _ 3)
  have j0 := (hc (w.heap.size + 1) 0 (by simp)).trans (second_cell _ _ _ _ 0)
  have j1 := (hc (w.heap.size + 1) 1 (by simp)).trans (second_cell _ _ _ _ 1)
  have j2 := (hc (w.heap.size + 1) 2 (by simp)).trans (second_cell _ _ _ _ 2)
  have j3 := (hc (w.heap.size + 1) 3 (by simp)).trans (second_cell _ _ _ _ 3)
  simp only [List.getElem?_toArray, List.getElem?_cons_zero, List.getElem?_cons_succ] at i0 i1 i2 i3 j0 j1 j2 j3
  clear hc
  have hz5 : w.heap.size + 1 < w5.heap.size := by have := B5.out.size; simp at this; omega
  have hz6 : w.heap.size < w5.heap.size := by omega
  have C5 := Lib.hid (below_store (below_three B5.out) (Nat.le_refl _) (.int .u8 3) (.float .f64 x) (.string ByteArray.empty) (.int .i64 0))
  go_wp2
  go_ret2
  exact ⟨rfl, C5.out⟩

set_option maxHeartbeats 4000000 in
theorem vPlain_2_1 (x : Nat) (s : ByteArray) (r : Int) (x' : Nat) (s' : ByteArray) (r' : Int) (w : World) (hx : x < 18446744073709551616) (hy : x' < 18446744073709551616) (ma : mayV 2 x s r = true) (mb : mayV 1 x' s' r' = true) :
    Calls Tryd.prog 19 #[val 2 x s r, val 1 x' s' r'] w fun e w' => e = .returned (plW ((false, 0))) ∧ Below w.heap.size w w' := by
  have qa := Lib.hid (fun w' => vMay_any 2 x s r w' (by decide) hx)
  have qb := Lib.hid (fun w' => vMay_any 1 x' s' r' w' (by decide) hy)
  have oa := Lib.hid (fun w' => vObj_any 2 x s r w')
  have ob := Lib.hid (fun w' => vObj_any 1 x' s' r' w')
  rw [ma] at qa
  rw [mb] at qb
  rw [show isObj 2 = false from by decide] at oa
  rw [show isObj 1 = false from by decide] at ob
  have qn := Lib.hid (fun w' => vNum_any x w')
  unfold val at *
  clear ma mb hx hy
  go_enter Tryd.func19, Tryd.ntmps19
  go_wp2_with fail
  refine (qa.out _).mono ?_; rintro e w1 ⟨rfl, b1⟩
  obtain ⟨hc, hf⟩ := bcell b1
  have B1 := Lib.hid b1
  clear b1
  go_wp2_with fail
  refine (qb.out _).mono ?_; rintro e w2 ⟨rfl, b2⟩
  have B2 := Lib.hid (B1.out.trans (b2.mono B1.out.size))
  clear b2 hc hf
  obtain ⟨hc, hf⟩ := bcell B2.out
  go_wp2_with fail
  refine (oa.out _).mono ?_; rintro e w3 ⟨rfl, b3⟩
  have B3 := Lib.hid (B2.out.trans (b3.mono B2.out.size))
  clear b3 hc hf
  obtain ⟨hc, hf⟩ := bcell B3.out
  go_wp2_with fail
  refine (ob.out _).mono ?_; rintro e w4 ⟨rfl, b4⟩
  have B4 := Lib.hid (B3.out.trans (b4.mono B3.out.size))
  clear b4 hc hf
  obtain ⟨hc, hf⟩ := bcell B4.out
  go_wp2_with fail
  refine (qn.out _).mono ?_; rintro e w5 ⟨rfl, b5⟩
  have B5 := Lib.hid (B4.out.trans (b5.mono B4.out.size))
  clear b5 hc hf
  obtain ⟨hc, hf⟩ := bcell B5.out
  have i0 := (hc w.heap.size 0 (by simp; omega)).trans (first_cell _ _ _ _ 0)
  have i1 := (hc w.heap.size 1 (by simp; omega)).trans (first_cell _ _ _ _ 1)
  have i2 := (hc w.heap.size 2 (by simp; omega)).trans (first_cell _ _ _ _ 2)
  have i3 := (hc w.heap.size 3 (by simp; omega)).trans (first_cell _ _ _ _ 3)
  have j0 := (hc (w.heap.size + 1) 0 (by simp)).trans (second_cell _ _ _ _ 0)
  have j1 := (hc (w.heap.size + 1) 1 (by simp)).trans (second_cell _ _ _ _ 1)
  have j2 := (hc (w.heap.size + 1) 2 (by simp)).trans (second_cell _ _ _ _ 2)
  have j3 := (hc (w.heap.size + 1) 3 (by simp)).trans (second_cell _ _ _ _ 3)
  simp only [List.getElem?_toArray, List.getElem?_cons_zero, List.getElem?_cons_succ] at i0 i1 i2 i3 j0 j1 j2 j3
  clear hc
  have hz5 : w.heap.size + 1 < w5.heap.size := by have := B5.out.size; simp at this; omega
  have hz6 : w.heap.size < w5.heap.size := by omega
  have C5 := Lib.hid (below_store (below_three B5.out) (Nat.le_refl _) (.int .u8 3) (.float .f64 x) (.string ByteArray.empty) (.int .i64 0))
  go_wp2
  go_ret2
  exact ⟨rfl, C5.out⟩

set_option maxHeartbeats 4000000 in
theorem vPlain_2_2 (x : Nat) (s : ByteArray) (r : Int) (x' : Nat) (s' : ByteArray) (r' : Int) (w : World) (hx : x < 18446744073709551616) (hy : x' < 18446744073709551616) (ma : mayV 2 x s r = true) (mb : mayV 2 x' s' r' = true) :
    Calls Tryd.prog 19 #[val 2 x s r, val 2 x' s' r'] w fun e w' => e = .returned (plW ((strictV 2 x s r 2 x' s' r', 0))) ∧ Below w.heap.size w w' := by
  have qa := Lib.hid (fun w' => vMay_any 2 x s r w' (by decide) hx)
  have qb := Lib.hid (fun w' => vMay_any 2 x' s' r' w' (by decide) hy)
  have oa := Lib.hid (fun w' => vObj_any 2 x s r w')
  have ob := Lib.hid (fun w' => vObj_any 2 x' s' r' w')
  rw [ma] at qa
  rw [mb] at qb
  rw [show isObj 2 = false from by decide] at oa
  rw [show isObj 2 = false from by decide] at ob
  have qs := Lib.hid (fun w' => vStrict_any 2 x s r 2 x' s' r' w' hx hy)
  generalize strictV 2 x s r 2 x' s' r' = V at *
  unfold val at *
  clear ma mb hx hy
  go_enter Tryd.func19, Tryd.ntmps19
  go_wp2_with fail
  refine (qa.out _).mono ?_; rintro e w1 ⟨rfl, b1⟩
  obtain ⟨hc, hf⟩ := bcell b1
  have B1 := Lib.hid b1
  clear b1
  go_wp2_with fail
  refine (qb.out _).mono ?_; rintro e w2 ⟨rfl, b2⟩
  have B2 := Lib.hid (B1.out.trans (b2.mono B1.out.size))
  clear b2 hc hf
  obtain ⟨hc, hf⟩ := bcell B2.out
  go_wp2_with fail
  refine (oa.out _).mono ?_; rintro e w3 ⟨rfl, b3⟩
  have B3 := Lib.hid (B2.out.trans (b3.mono B2.out.size))
  clear b3 hc hf
  obtain ⟨hc, hf⟩ := bcell B3.out
  go_wp2_with fail
  refine (ob.out _).mono ?_; rintro e w4 ⟨rfl, b4⟩
  have B4 := Lib.hid (B3.out.trans (b4.mono B3.out.size))
  clear b4 hc hf
  obtain ⟨hc, hf⟩ := bcell B4.out
  go_wp2_with fail
  refine (qs.out _).mono ?_; rintro e w5 ⟨rfl, b5⟩
  have B5 := Lib.hid (B4.out.trans (b5.mono B4.out.size))
  clear b5 hc hf
  obtain ⟨hc, hf⟩ := bcell B5.out
  go_wp2
  go_ret2
  exact ⟨rfl, below_three B5.out⟩

set_option maxHeartbeats 4000000 in
theorem vPlain_2_3 (x : Nat) (s : ByteArray) (r : Int) (x' : Nat) (s' : ByteArray) (r' : Int) (w : World) (hx : x < 18446744073709551616) (hy : x' < 18446744073709551616) (ma : mayV 2 x s r = true) (mb : mayV 3 x' s' r' = true) :
    Calls Tryd.prog 19 #[val 2 x s r, val 3 x' s' r'] w fun e w' => e = .returned (plW ((strictV 3 x ByteArray.empty 0 3 x' s' r', 0))) ∧ Below w.heap.size w w' := by
  have qa := Lib.hid (fun w' => vMay_any 2 x s r w' (by decide) hx)
  have qb := Lib.hid (fun w' => vMay_any 3 x' s' r' w' (by decide) hy)
  have oa := Lib.hid (fun w' => vObj_any 2 x s r w')
  have ob := Lib.hid (fun w' => vObj_any 3 x' s' r' w')
  rw [ma] at qa
  rw [mb] at qb
  rw [show isObj 2 = false from by decide] at oa
  rw [show isObj 3 = false from by decide] at ob
  have qs := Lib.hid (fun w' => vStrict_any 3 x ByteArray.empty 0 3 x' s' r' w' hx hy)
  have qn := Lib.hid (fun w' => vNum_any x w')
  generalize strictV 3 x ByteArray.empty 0 3 x' s' r' = V at *
  unfold val at *
  clear ma mb hx hy
  go_enter Tryd.func19, Tryd.ntmps19
  go_wp2_with fail
  refine (qa.out _).mono ?_; rintro e w1 ⟨rfl, b1⟩
  obtain ⟨hc, hf⟩ := bcell b1
  have B1 := Lib.hid b1
  clear b1
  go_wp2_with fail
  refine (qb.out _).mono ?_; rintro e w2 ⟨rfl, b2⟩
  have B2 := Lib.hid (B1.out.trans (b2.mono B1.out.size))
  clear b2 hc hf
  obtain ⟨hc, hf⟩ := bcell B2.out
  go_wp2_with fail
  refine (oa.out _).mono ?_; rintro e w3 ⟨rfl, b3⟩
  have B3 := Lib.hid (B2.out.trans (b3.mono B2.out.size))
  clear b3 hc hf
  obtain ⟨hc, hf⟩ := bcell B3.out
  go_wp2_with fail
  refine (ob.out _).mono ?_; rintro e w4 ⟨rfl, b4⟩
  have B4 := Lib.hid (B3.out.trans (b4.mono B3.out.size))
  clear b4 hc hf
  obtain ⟨hc, hf⟩ := bcell B4.out
  go_wp2_with fail
  refine (qn.out _).mono ?_; rintro e w5 ⟨rfl, b5⟩
  have B5 := Lib.hid (B4.out.trans (b5.mono B4.out.size))
  clear b5 hc hf
  obtain ⟨hc, hf⟩ := bcell B5.out
  have i0 := (hc w.heap.size 0 (by simp; omega)).trans (first_cell _ _ _ _ 0)
  have i1 := (hc w.heap.size 1 (by simp; omega)).trans (first_cell _ _ _ _ 1)
  have i2 := (hc w.heap.size 2 (by simp; omega)).trans (first_cell _ _ _ _ 2)
  have i3 := (hc w.heap.size 3 (by simp; omega)).trans (first_cell _ _ _ _ 3)
  have j0 := (hc (w.heap.size + 1) 0 (by simp)).trans (second_cell _ _ _ _ 0)
  have j1 := (hc (w.heap.size + 1) 1 (by simp)).trans (second_cell _ _ _ _ 1)
  have j2 := (hc (w.heap.size + 1) 2 (by simp)).trans (second_cell _ _ _ _ 2)
  have j3 := (hc (w.heap.size + 1) 3 (by simp)).trans (second_cell _ _ _ _ 3)
  simp only [List.getElem?_toArray, List.getElem?_cons_zero, List.getElem?_cons_succ] at i0 i1 i2 i3 j0 j1 j2 j3
  clear hc
  have hz5 : w.heap.size + 1 < w5.heap.size := by have := B5.out.size; simp at this; omega
  have hz6 : w.heap.size < w5.heap.size := by omega
  have C5 := Lib.hid (below_store (below_three B5.out) (Nat.le_refl _) (.int .u8 3) (.float .f64 x) (.string ByteArray.empty) (.int .i64 0))
  go_wp2_with fail
  refine (qs.out _).mono ?_; rintro e w6 ⟨rfl, b6⟩
  have B6 := Lib.hid (C5.out.trans (b6.mono C5.out.size))
  go_wp2
  go_ret2
  exact ⟨rfl, B6.out⟩

set_option maxHeartbeats 4000000 in
theorem vPlain_2_5 (x : Nat) (s : ByteArray) (r : Int) (x' : Nat) (s' : ByteArray) (r' : Int) (w : World) (hx : x < 18446744073709551616) (hy : x' < 18446744073709551616) (ma : mayV 2 x s r = true) (mb : mayV 5 x' s' r' = true) :
    Calls Tryd.prog 19 #[val 2 x s r, val 5 x' s' r'] w fun e w' => e = .returned (plW ((false, 0))) ∧ Below w.heap.size w w' := by
  have qa := Lib.hid (fun w' => vMay_any 2 x s r w' (by decide) hx)
  have qb := Lib.hid (fun w' => vMay_any 5 x' s' r' w' (by decide) hy)
  have oa := Lib.hid (fun w' => vObj_any 2 x s r w')
  have ob := Lib.hid (fun w' => vObj_any 5 x' s' r' w')
  rw [ma] at qa
  rw [mb] at qb
  rw [show isObj 2 = false from by decide] at oa
  rw [show isObj 5 = false from by decide] at ob
  have qn := Lib.hid (fun w' => vNum_any x w')
  unfold val at *
  clear ma mb hx hy
  go_enter Tryd.func19, Tryd.ntmps19
  go_wp2_with fail
  refine (qa.out _).mono ?_; rintro e w1 ⟨rfl, b1⟩
  obtain ⟨hc, hf⟩ := bcell b1
  have B1 := Lib.hid b1
  clear b1
  go_wp2_with fail
  refine (qb.out _).mono ?_; rintro e w2 ⟨rfl, b2⟩
  have B2 := Lib.hid (B1.out.trans (b2.mono B1.out.size))
  clear b2 hc hf
  obtain ⟨hc, hf⟩ := bcell B2.out
  go_wp2_with fail
  refine (oa.out _).mono ?_; rintro e w3 ⟨rfl, b3⟩
  have B3 := Lib.hid (B2.out.trans (b3.mono B2.out.size))
  clear b3 hc hf
  obtain ⟨hc, hf⟩ := bcell B3.out
  go_wp2_with fail
  refine (ob.out _).mono ?_; rintro e w4 ⟨rfl, b4⟩
  have B4 := Lib.hid (B3.out.trans (b4.mono B3.out.size))
  clear b4 hc hf
  obtain ⟨hc, hf⟩ := bcell B4.out
  go_wp2_with fail
  refine (qn.out _).mono ?_; rintro e w5 ⟨rfl, b5⟩
  have B5 := Lib.hid (B4.out.trans (b5.mono B4.out.size))
  clear b5 hc hf
  obtain ⟨hc, hf⟩ := bcell B5.out
  have i0 := (hc w.heap.size 0 (by simp; omega)).trans (first_cell _ _ _ _ 0)
  have i1 := (hc w.heap.size 1 (by simp; omega)).trans (first_cell _ _ _ _ 1)
  have i2 := (hc w.heap.size 2 (by simp; omega)).trans (first_cell _ _ _ _ 2)
  have i3 := (hc w.heap.size 3 (by simp; omega)).trans (first_cell _ _ _ _ 3)
  have j0 := (hc (w.heap.size + 1) 0 (by simp)).trans (second_cell _ _ _ _ 0)
  have j1 := (hc (w.heap.size + 1) 1 (by simp)).trans (second_cell _ _ _ _ 1)
  have j2 := (hc (w.heap.size + 1) 2 (by simp)).trans (second_cell _ _ _ _ 2)
  have j3 := (hc (w.heap.size + 1) 3 (by simp)).trans (second_cell _ _ _ _ 3)
  simp only [List.getElem?_toArray, List.getElem?_cons_zero, List.getElem?_cons_succ] at i0 i1 i2 i3 j0 j1 j2 j3
  clear hc
  have hz5 : w.heap.size + 1 < w5.heap.size := by have := B5.out.size; simp at this; omega
  have hz6 : w.heap.size < w5.heap.size := by omega
  have C5 := Lib.hid (below_store (below_three B5.out) (Nat.le_refl _) (.int .u8 3) (.float .f64 x) (.string ByteArray.empty) (.int .i64 0))
  go_wp2
  go_ret2
  exact ⟨rfl, C5.out⟩

set_option maxHeartbeats 4000000 in
theorem vPlain_3_0 (x : Nat) (s : ByteArray) (r : Int) (x' : Nat) (s' : ByteArray) (r' : Int) (w : World) (hx : x < 18446744073709551616) (hy : x' < 18446744073709551616) (ma : mayV 3 x s r = true) (mb : mayV 0 x' s' r' = true) :
    Calls Tryd.prog 19 #[val 3 x s r, val 0 x' s' r'] w fun e w' => e = .returned (plW ((false, 0))) ∧ Below w.heap.size w w' := by
  have qa := Lib.hid (fun w' => vMay_any 3 x s r w' (by decide) hx)
  have qb := Lib.hid (fun w' => vMay_any 0 x' s' r' w' (by decide) hy)
  have oa := Lib.hid (fun w' => vObj_any 3 x s r w')
  have ob := Lib.hid (fun w' => vObj_any 0 x' s' r' w')
  rw [ma] at qa
  rw [mb] at qb
  rw [show isObj 3 = false from by decide] at oa
  rw [show isObj 0 = false from by decide] at ob
  unfold val at *
  clear ma mb hx hy
  go_enter Tryd.func19, Tryd.ntmps19
  go_wp2_with fail
  refine (qa.out _).mono ?_; rintro e w1 ⟨rfl, b1⟩
  obtain ⟨hc, hf⟩ := bcell b1
  have B1 := Lib.hid b1
  clear b1
  go_wp2_with fail
  refine (qb.out _).mono ?_; rintro e w2 ⟨rfl, b2⟩
  have B2 := Lib.hid (B1.out.trans (b2.mono B1.out.size))
  clear b2 hc hf
  obtain ⟨hc, hf⟩ := bcell B2.out
  go_wp2_with fail
  refine (oa.out _).mono ?_; rintro e w3 ⟨rfl, b3⟩
  have B3 := Lib.hid (B2.out.trans (b3.mono B2.out.size))
  clear b3 hc hf
  obtain ⟨hc, hf⟩ := bcell B3.out
  go_wp2_with fail
  refine (ob.out _).mono ?_; rintro e w4 ⟨rfl, b4⟩
  have B4 := Lib.hid (B3.out.trans (b4.mono B3.out.size))
  clear b4 hc hf
  obtain ⟨hc, hf⟩ := bcell B4.out
  go_wp2
  go_ret2
  exact ⟨rfl, below_three B4.out⟩

set_option maxHeartbeats 4000000 in
theorem vPlain_3_1 (x : Nat) (s : ByteArray) (r : Int) (x' : Nat) (s' : ByteArray) (r' : Int) (w : World) (hx : x < 18446744073709551616) (hy : x' < 18446744073709551616) (ma : mayV 3 x s r = true) (mb : mayV 1 x' s' r' = true) :
    Calls Tryd.prog 19 #[val 3 x s r, val 1 x' s' r'] w fun e w' => e = .returned (plW ((false, 0))) ∧ Below w.heap.size w w' := by
  have qa := Lib.hid (fun w' => vMay_any 3 x s r w' (by decide) hx)
  have qb := Lib.hid (fun w' => vMay_any 1 x' s' r' w' (by decide) hy)
  have oa := Lib.hid (fun w' => vObj_any 3 x s r w')
  have ob := Lib.hid (fun w' => vObj_any 1 x' s' r' w')
  rw [ma] at qa
  rw [mb] at qb
  rw [show isObj 3 = false from by decide] at oa
  rw [show isObj 1 = false from by decide] at ob
  unfold val at *
  clear ma mb hx hy
  go_enter Tryd.func19, Tryd.ntmps19
  go_wp2_with fail
  refine (qa.out _).mono ?_; rintro e w1 ⟨rfl, b1⟩
  obtain ⟨hc, hf⟩ := bcell b1
  have B1 := Lib.hid b1
  clear b1
  go_wp2_with fail
  refine (qb.out _).mono ?_; rintro e w2 ⟨rfl, b2⟩
  have B2 := Lib.hid (B1.out.trans (b2.mono B1.out.size))
  clear b2 hc hf
  obtain ⟨hc, hf⟩ := bcell B2.out
  go_wp2_with fail
  refine (oa.out _).mono ?_; rintro e w3 ⟨rfl, b3⟩
  have B3 := Lib.hid (B2.out.trans (b3.mono B2.out.size))
  clear b3 hc hf
  obtain ⟨hc, hf⟩ := bcell B3.out
  go_wp2_with fail
  refine (ob.out _).mono ?_; rintro e w4 ⟨rfl, b4⟩
  have B4 := Lib.hid (B3.out.trans (b4.mono B3.out.size))
  clear b4 hc hf
  obtain ⟨hc, hf⟩ := bcell B4.out
  go_wp2
  go_ret2
  exact ⟨rfl, below_three B4.out⟩

set_option maxHeartbeats 4000000 in
theorem vPlain_3_2 (x : Nat) (s : ByteArray) (r : Int) (x' : Nat) (s' : ByteArray) (r' : Int) (w : World) (hx : x < 18446744073709551616) (hy : x' < 18446744073709551616) (ma : mayV 3 x s r = true) (mb : mayV 2 x' s' r' = true) :
    Calls Tryd.prog 19 #[val 3 x s r, val 2 x' s' r'] w fun e w' => e = .returned (plW ((strictV 3 x s r 3 x' ByteArray.empty 0, 0))) ∧ Below w.heap.size w w' := by
  have qa := Lib.hid (fun w' => vMay_any 3 x s r w' (by decide) hx)
  have qb := Lib.hid (fun w' => vMay_any 2 x' s' r' w' (by decide) hy)
  have oa := Lib.hid (fun w' => vObj_any 3 x s r w')
  have ob := Lib.hid (fun w' => vObj_any 2 x' s' r' w')
  rw [ma] at qa
  rw [mb] at qb
  rw [show isObj 3 = false from by decide] at oa
  rw [show isObj 2 = false from by decide] at ob
  have qs := Lib.hid (fun w' => vStrict_any 3 x s r 3 x' ByteArray.empty 0 w' hx hy)
  have qn := Lib.hid (fun w' => vNum_any x' w')
  generalize strictV 3 x s r 3 x' ByteArray.empty 0 = V at *
  unfold val at *
  clear ma mb hx hy
  go_enter Tryd.func19, Tryd.ntmps19
  go_wp2_with fail
  refine (qa.out _).mono ?_; rintro e w1 ⟨rfl, b1⟩
  obtain ⟨hc, hf⟩ := bcell b1
  have B1 := Lib.hid b1
  clear b1
  go_wp2_with fail
  refine (qb.out _).mono ?_; rintro e w2 ⟨rfl, b2⟩
  have B2 := Lib.hid (B1.out.trans (b2.mono B1.out.size))
  clear b2 hc hf
  obtain ⟨hc, hf⟩ := bcell B2.out
  go_wp2_with fail
  refine (oa.out _).mono ?_; rintro e w3 ⟨rfl, b3⟩
  have B3 := Lib.hid (B2.out.trans (b3.mono B2.out.size))
  clear b3 hc hf
  obtain ⟨hc, hf⟩ := bcell B3.out
  go_wp2_with fail
  refine (ob.out _).mono ?_; rintro e w4 ⟨rfl, b4⟩
  have B4 := Lib.hid (B3.out.trans (b4.mono B3.out.size))
  clear b4 hc hf
  obtain ⟨hc, hf⟩ := bcell B4.out
  go_wp2_with fail
  refine (qn.out _).mono ?_; rintro e w5 ⟨rfl, b5⟩
  have B5 := Lib.hid (B4.out.trans (b5.mono B4.out.size))
  clear b5 hc hf
  obtain ⟨hc, hf⟩ := bcell B5.out
  have hz5 : w.heap.size + 1 < w5.heap.size := by have := B5.out.size; simp at this; omega
  have hz6 : w.heap.size < w5.heap.size := by omega
  have C5 := Lib.hid (below_store (below_three B5.out) (Nat.le_succ _) (.int .u8 3) (.float .f64 x') (.string ByteArray.empty) (.int .i64 0))
  go_wp2_with fail
  refine (qs.out _).mono ?_; rintro e w6 ⟨rfl, b6⟩
  have B6 := Lib.hid (C5.out.trans (b6.mono C5.out.size))
  go_wp2
  go_ret2
  exact ⟨rfl, B6.out⟩

set_option maxHeartbeats 4000000 in
theorem vPlain_3_3 (x : Nat) (s : ByteArray) (r : Int) (x' : Nat) (s' : ByteArray) (r' : Int) (w : World) (hx : x < 18446744073709551616) (hy : x' < 18446744073709551616) (ma : mayV 3 x s r = true) (mb : mayV 3 x' s' r' = true) :
    Calls Tryd.prog 19 #[val 3 x s r, val 3 x' s' r'] w fun e w' => e = .returned (plW ((strictV 3 x s r 3 x' s' r', 0))) ∧ Below w.heap.size w w' := by
  have qa := Lib.hid (fun w' => vMay_any 3 x s r w' (by decide) hx)
  have qb := Lib.hid (fun w' => vMay_any 3 x' s' r' w' (by decide) hy)
  have oa := Lib.hid (fun w' => vObj_any 3 x s r w')
  have ob := Lib.hid (fun w' => vObj_any 3 x' s' r' w')
  rw [ma] at qa
  rw [mb] at qb
  rw [show isObj 3 = false from by decide] at oa
  rw [show isObj 3 = false from by decide] at ob
  have qs := Lib.hid (fun w' => vStrict_any 3 x s r 3 x' s' r' w' hx hy)
  generalize strictV 3 x s r 3 x' s' r' = V at *
  unfold val at *
  clear ma mb hx hy
  go_enter Tryd.func19, Tryd.ntmps19
  go_wp2_with fail
  refine (qa.out _).mono ?_; rintro e w1 ⟨rfl, b1⟩
  obtain ⟨hc, hf⟩ := bcell b1
  have B1 := Lib.hid b1
  clear b1
  go_wp2_with fail
  refine (qb.out _).mono ?_; rintro e w2 ⟨rfl, b2⟩
  have B2 := Lib.hid (B1.out.trans (b2.mono B1.out.size))
  clear b2 hc hf
  obtain ⟨hc, hf⟩ := bcell B2.out
  go_wp2_with fail
  refine (oa.out _).mono ?_; rintro e w3 ⟨rfl, b3⟩
  have B3 := Lib.hid (B2.out.trans (b3.mono B2.out.size))
  clear b3 hc hf
  obtain ⟨hc, hf⟩ := bcell B3.out
  go_wp2_with fail
  refine (ob.out _).mono ?_; rintro e w4 ⟨rfl, b4⟩
  have B4 := Lib.hid (B3.out.trans (b4.mono B3.out.size))
  clear b4 hc hf
  obtain ⟨hc, hf⟩ := bcell B4.out
  go_wp2_with fail
  refine (qs.out _).mono ?_; rintro e w5 ⟨rfl, b5⟩
  have B5 := Lib.hid (B4.out.trans (b5.mono B4.out.size))
  clear b5 hc hf
  obtain ⟨hc, hf⟩ := bcell B5.out
  go_wp2
  go_ret2
  exact ⟨rfl, below_three B5.out⟩

set_option maxHeartbeats 4000000 in
theorem vPlain_3_5 (x : Nat) (s : ByteArray) (r : Int) (x' : Nat) (s' : ByteArray) (r' : Int) (w : World) (hx : x < 18446744073709551616) (hy : x' < 18446744073709551616) (ma : mayV 3 x s r = true) (mb : mayV 5 x' s' r' = true) :
    Calls Tryd.prog 19 #[val 3 x s r, val 5 x' s' r'] w fun e w' => e = .returned (plW ((false, 0))) ∧ Below w.heap.size w w' := by
  have qa := Lib.hid (fun w' => vMay_any 3 x s r w' (by decide) hx)
  have qb := Lib.hid (fun w' => vMay_any 5 x' s' r' w' (by decide) hy)
  have oa := Lib.hid (fun w' => vObj_any 3 x s r w')
  have ob := Lib.hid (fun w' => vObj_any 5 x' s' r' w')
  rw [ma] at qa
  rw [mb] at qb
  rw [show isObj 3 = false from by decide] at oa
  rw [show isObj 5 = false from by decide] at ob
  unfold val at *
  clear ma mb hx hy
  go_enter Tryd.func19, Tryd.ntmps19
  go_wp2_with fail
  refine (qa.out _).mono ?_; rintro e w1 ⟨rfl, b1⟩
  obtain ⟨hc, hf⟩ := bcell b1
  have B1 := Lib.hid b1
  clear b1
  go_wp2_with fail
  refine (qb.out _).mono ?_; rintro e w2 ⟨rfl, b2⟩
  have B2 := Lib.hid (B1.out.trans (b2.mono B1.out.size))
  clear b2 hc hf
  obtain ⟨hc, hf⟩ := bcell B2.out
  go_wp2_with fail
  refine (oa.out _).mono ?_; rintro e w3 ⟨rfl, b3⟩
  have B3 := Lib.hid (B2.out.trans (b3.mono B2.out.size))
  clear b3 hc hf
  obtain ⟨hc, hf⟩ := bcell B3.out
  go_wp2_with fail
  refine (ob.out _).mono ?_; rintro e w4 ⟨rfl, b4⟩
  have B4 := Lib.hid (B3.out.trans (b4.mono B3.out.size))
  clear b4 hc hf
  obtain ⟨hc, hf⟩ := bcell B4.out
  go_wp2
  go_ret2
  exact ⟨rfl, below_three B4.out⟩

set_option maxHeartbeats 4000000 in
theorem vPlain_4_0 (x : Nat) (s : ByteArray) (r : Int) (x' : Nat) (s' : ByteArray) (r' : Int) (w : World) (hx : x < 18446744073709551616) (hy : x' < 18446744073709551616) (ma : mayV 4 x s r = true) (mb : mayV 0 x' s' r' = true) :
    Calls Tryd.prog 19 #[val 4 x s r, val 0 x' s' r'] w fun e w' => e = .returned (plW ((false, 0))) ∧ Below w.heap.size w w' := by
  have qa := Lib.hid (fun w' => vMay_any 4 x s r w' (by decide) hx)
  have qb := Lib.hid (fun w' => vMay_any 0 x' s' r' w' (by decide) hy)
  have oa := Lib.hid (fun w' => vObj_any 4 x s r w')
  have ob := Lib.hid (fun w' => vObj_any 0 x' s' r' w')
  rw [ma] at qa
  rw [mb] at qb
  rw [show isObj 4 = false from by decide] at oa
  rw [show isObj 0 = false from by decide] at ob
  unfold val at *
  clear ma mb hx hy
  go_enter Tryd.func19, Tryd.ntmps19
  go_wp2_with fail
  refine (qa.out _).mono ?_; rintro e w1 ⟨rfl, b1⟩
  obtain ⟨hc, hf⟩ := bcell b1
  have B1 := Lib.hid b1
  clear b1
  go_wp2_with fail
  refine (qb.out _).mono ?_; rintro e w2 ⟨rfl, b2⟩
  have B2 := Lib.hid (B1.out.trans (b2.mono B1.out.size))
  clear b2 hc hf
  obtain ⟨hc, hf⟩ := bcell B2.out
  go_wp2_with fail
  refine (oa.out _).mono ?_; rintro e w3 ⟨rfl, b3⟩
  have B3 := Lib.hid (B2.out.trans (b3.mono B2.out.size))
  clear b3 hc hf
  obtain ⟨hc, hf⟩ := bcell B3.out
  go_wp2_with fail
  refine (ob.out _).mono ?_; rintro e w4 ⟨rfl, b4⟩
  have B4 := Lib.hid (B3.out.trans (b4.mono B3.out.size))
  clear b4 hc hf
  obtain ⟨hc, hf⟩ := bcell B4.out
  go_wp2
  go_ret2
  exact ⟨rfl, below_three B4.out⟩

set_option maxHeartbeats 4000000 in
theorem vPlain_4_1 (x : Nat) (s : ByteArray) (r : Int) (x' : Nat) (s' : ByteArray) (r' : Int) (w : World) (hx : x < 18446744073709551616) (hy : x' < 18446744073709551616) (ma : mayV 4 x s r = true) (mb : mayV 1 x' s' r' = true) :
    Calls Tryd.prog 19 #[val 4 x s r, val 1 x' s' r'] w fun e w' => e = .returned (plW ((false, 0))) ∧ Below w.heap.size w w' := by
  have qa := Lib.hid (fun w' => vMay_any 4 x s r w' (by decide) hx)
  have qb := Lib.hid (fun w' => vMay_any 1 x' s' r' w' (by decide) hy)
  have oa := Lib.hid (fun w' => vObj_any 4 x s r w')
  have ob := Lib.hid (fun w' => vObj_any 1 x' s' r' w')
  rw [ma] at qa
  rw [mb] at qb
  rw [show isObj 4 = false from by decide] at oa
  rw [show isObj 1 = false from by decide] at ob
  unfold val at *
  clear ma mb hx hy
  go_enter Tryd.func19, Tryd.ntmps19
  go_wp2_with fail
  refine (qa.out _).mono ?_; rintro e w1 ⟨rfl, b1⟩
  obtain ⟨hc, hf⟩ := bcell b1
  have B1 := Lib.hid b1
  clear b1
  go_wp2_with fail
  refine (qb.out _).mono ?_; rintro e w2 ⟨rfl, b2⟩
  have B2 := Lib.hid (B1.out.trans (b2.mono B1.out.size))
  clear b2 hc hf
  obtain ⟨hc, hf⟩ := bcell B2.out
  go_wp2_with fail
  refine (oa.out _).mono ?_; rintro e w3 ⟨rfl, b3⟩
  have B3 := Lib.hid (B2.out.trans (b3.mono B2.out.size))
  clear b3 hc hf
  obtain ⟨hc, hf⟩ := bcell B3.out
  go_wp2_with fail
  refine (ob.out _).mono ?_; rintro e w4 ⟨rfl, b4⟩
  have B4 := Lib.hid (B3.out.trans (b4.mono B3.out.size))
  clear b4 hc hf
  obtain ⟨hc, hf⟩ := bcell B4.out
  go_wp2
  go_ret2
  exact ⟨rfl, below_three B4.out⟩

set_option maxHeartbeats 4000000 in
theorem vPlain_4_4 (x : Nat) (s : ByteArray) (r : Int) (x' : Nat) (s' : ByteArray) (r' : Int) (w : World) (hx : x < 18446744073709551616) (hy : x' < 18446744073709551616) (ma : mayV 4 x s r = true) (mb : mayV 4 x' s' r' = true) :
    Calls Tryd.prog 19 #[val 4 x s r, val 4 x' s' r'] w fun e w' => e = .returned (plW ((strictV 4 x s r 4 x' s' r', 0))) ∧ Below w.heap.size w w' := by
  have qa := Lib.hid (fun w' => vMay_any 4 x s r w' (by decide) hx)
  have qb := Lib.hid (fun w' => vMay_any 4 x' s' r' w' (by decide) hy)
  have oa := Lib.hid (fun w' => vObj_any 4 x s r w')
  have ob := Lib.hid (fun w' => vObj_any 4 x' s' r' w')
  rw [ma] at qa
  rw [mb] at qb
  rw [show isObj 4 = false from by decide] at oa
  rw [show isObj 4 = false from by decide] at ob
  have qs := Lib.hid (fun w' => vStrict_any 4 x s r 4 x' s' r' w' hx hy)
  generalize strictV 4 x s r 4 x' s' r' = V at *
  unfold val at *
  clear ma mb hx hy
  go_enter Tryd.func19, Tryd.ntmps19
  go_wp2_with fail
  refine (qa.out _).mono ?_; rintro e w1 ⟨rfl, b1⟩
  obtain ⟨hc, hf⟩ := bcell b1
  have B1 := Lib.hid b1
  clear b1
  go_wp2_with fail
  refine (qb.out _).mono ?_; rintro e w2 ⟨rfl, b2⟩
  have B2 := Lib.hid (B1.out.trans (b2.mono B1.out.size))
  clear b2 hc hf
  obtain ⟨hc, hf⟩ := bcell B2.out
  go_wp2_with fail
  refine (oa.out _).mono ?_; rintro e w3 ⟨rfl, b3⟩
  have B3 := Lib.hid (B2.out.trans (b3.mono B2.out.size))
  clear b3 hc hf
  obtain ⟨hc, hf⟩ := bcell B3.out
  go_wp2_with fail
  refine (ob.out _).mono ?_; rintro e w4 ⟨rfl, b4⟩
  have B4 := Lib.hid (B3.out.trans (b4.mono B3.out.size))
  clear b4 hc hf
  obtain ⟨hc, hf⟩ := bcell B4.out
  go_wp2_with fail
  refine (qs.out _).mono ?_; rintro e w5 ⟨rfl, b5⟩
  have B5 := Lib.hid (B4.out.trans (b5.mono B4.out.size))
  clear b5 hc hf
  obtain ⟨hc, hf⟩ := bcell B5.out
  go_wp2
  go_ret2
  exact ⟨rfl, below_three B5.out⟩

set_option maxHeartbeats 4000000 in
theorem vPlain_4_5 (x : Nat) (s : ByteArray) (r : Int) (x' : Nat) (s' : ByteArray) (r' : Int) (w : World) (hx : x < 18446744073709551616) (hy : x' < 18446744073709551616) (ma : mayV 4 x s r = true) (mb : mayV 5 x' s' r' = true) :
    Calls Tryd.prog 19 #[val 4 x s r, val 5 x' s' r'] w fun e w' => e = .returned (plW ((false, 0))) ∧ Below w.heap.size w w' := by
  have qa := Lib.hid (fun w' => vMay_any 4 x s r w' (by decide) hx)
  have qb := Lib.hid (fun w' => vMay_any 5 x' s' r' w' (by decide) hy)
  have oa := Lib.hid (fun w' => vObj_any 4 x s r w')
  have ob := Lib.hid (fun w' => vObj_any 5 x' s' r' w')
  rw [ma] at qa
  rw [mb] at qb
  rw [show isObj 4 = false from by decide] at oa
  rw [show isObj 5 = false from by decide] at ob
  unfold val at *
  clear ma mb hx hy
  go_enter Tryd.func19, Tryd.ntmps19
  go_wp2_with fail
  refine (qa.out _).mono ?_; rintro e w1 ⟨rfl, b1⟩
  obtain ⟨hc, hf⟩ := bcell b1
  have B1 := Lib.hid b1
  clear b1
  go_wp2_with fail
  refine (qb.out _).mono ?_; rintro e w2 ⟨rfl, b2⟩
  have B2 := Lib.hid (B1.out.trans (b2.mono B1.out.size))
  clear b2 hc hf
  obtain ⟨hc, hf⟩ := bcell B2.out
  go_wp2_with fail
  refine (oa.out _).mono ?_; rintro e w3 ⟨rfl, b3⟩
  have B3 := Lib.hid (B2.out.trans (b3.mono B2.out.size))
  clear b3 hc hf
  obtain ⟨hc, hf⟩ := bcell B3.out
  go_wp2_with fail
  refine (ob.out _).mono ?_; rintro e w4 ⟨rfl, b4⟩
  have B4 := Lib.hid (B3.out.trans (b4.mono B3.out.size))
  clear b4 hc hf
  obtain ⟨hc, hf⟩ := bcell B4.out
  go_wp2
  go_ret2
  exact ⟨rfl, below_three B4.out⟩

set_option maxHeartbeats 4000000 in
theorem vPlain_5_0 (x : Nat) (s : ByteArray) (r : Int) (x' : Nat) (s' : ByteArray) (r' : Int) (w : World) (hx : x < 18446744073709551616) (hy : x' < 18446744073709551616) (ma : mayV 5 x s r = true) (mb : mayV 0 x' s' r' = true) :
    Calls Tryd.prog 19 #[val 5 x s r, val 0 x' s' r'] w fun e w' => e = .returned (plW ((false, 0))) ∧ Below w.heap.size w w' := by
  have qa := Lib.hid (fun w' => vMay_any 5 x s r w' (by decide) hx)
  have qb := Lib.hid (fun w' => vMay_any 0 x' s' r' w' (by decide) hy)
  have oa := Lib.hid (fun w' => vObj_any 5 x s r w')
  have ob := Lib.hid (fun w' => vObj_any 0 x' s' r' w')
  rw [ma] at qa
  rw [mb] at qb
  rw [show isObj 5 = false from by decide] at oa
  rw [show isObj 0 = false from by decide] at ob
  unfold val at *
  clear ma mb hx hy
  go_enter Tryd.func19, Tryd.ntmps19
  go_wp2_with fail
  refine (qa.out _).mono ?_; rintro e w1 ⟨rfl, b1⟩
  obtain ⟨hc, hf⟩ := bcell b1
  have B1 := Lib.hid b1
  clear b1
  go_wp2_with fail
  refine (qb.out _).mono ?_; rintro e w2 ⟨rfl, b2⟩
  have B2 := Lib.hid (B1.out.trans (b2.mono B1.out.size))
  clear b2 hc hf
  obtain ⟨hc, hf⟩ := bcell B2.out
  go_wp2_with fail
  refine (oa.out _).mono ?_; rintro e w3 ⟨rfl, b3⟩
  have B3 := Lib.hid (B2.out.trans (b3.mono B2.out.size))
  clear b3 hc hf
  obtain ⟨hc, hf⟩ := bcell B3.out
  go_wp2_with fail
  refine (ob.out _).mono ?_; rintro e w4 ⟨rfl, b4⟩
  have B4 := Lib.hid (B3.out.trans (b4.mono B3.out.size))
  clear b4 hc hf
  obtain ⟨hc, hf⟩ := bcell B4.out
  go_wp2
  go_ret2
  exact ⟨rfl, below_three B4.out⟩

set_option maxHeartbeats 4000000 in
theorem vPlain_5_1 (x : Nat) (s : ByteArray) (r : Int) (x' : Nat) (s' : ByteArray) (r' : Int) (w : World) (hx : x < 18446744073709551616) (hy : x' < 18446744073709551616) (ma : mayV 5 x s r = true) (mb : mayV 1 x' s' r' = true) :
    Calls Tryd.prog 19 #[val 5 x s r, val 1 x' s' r'] w fun e w' => e = .returned (plW ((false, 0))) ∧ Below w.heap.size w w' := by
  have qa := Lib.hid (fun w' => vMay_any 5 x s r w' (by decide) hx)
  have qb := Lib.hid (fun w' => vMay_any 1 x' s' r' w' (by decide) hy)
  have oa := Lib.hid (fun w' => vObj_any 5 x s r w')
  have ob := Lib.hid (fun w' => vObj_any 1 x' s' r' w')
  rw [ma] at qa
  rw [mb] at qb
  rw [show isObj 5 = false from by decide] at oa
  rw [show isObj 1 = false from by decide] at ob
  unfold val at *
  clear ma mb hx hy
  go_enter Tryd.func19, Tryd.ntmps19
  go_wp2_with fail
  refine (qa.out _).mono ?_; rintro e w1 ⟨rfl, b1⟩
  obtain ⟨hc, hf⟩ := bcell b1
  have B1 := Lib.hid b1
  clear b1
  go_wp2_with fail
  refine (qb.out _).mono ?_; rintro e w2 ⟨rfl, b2⟩
  have B2 := Lib.hid (B1.out.trans (b2.mono B1.out.size))
  clear b2 hc hf
  obtain ⟨hc, hf⟩ := bcell B2.out
  go_wp2_with fail
  refine (oa.out _).mono ?_; rintro e w3 ⟨rfl, b3⟩
  have B3 := Lib.hid (B2.out.trans (b3.mono B2.out.size))
  clear b3 hc hf
  obtain ⟨hc, hf⟩ := bcell B3.out
  go_wp2_with fail
  refine (ob.out _).mono ?_; rintro e w4 ⟨rfl, b4⟩
  have B4 := Lib.hid (B3.out.trans (b4.mono B3.out.size))
  clear b4 hc hf
  obtain ⟨hc, hf⟩ := bcell B4.out
  go_wp2
  go_ret2
  exact ⟨rfl, below_three B4.out⟩

set_option maxHeartbeats 4000000 in
theorem vPlain_5_2 (x : Nat) (s : ByteArray) (r : Int) (x' : Nat) (s' : ByteArray) (r' : Int) (w : World) (hx : x < 18446744073709551616) (hy : x' < 18446744073709551616) (ma : mayV 5 x s r = true) (mb : mayV 2 x' s' r' = true) :
    Calls Tryd.prog 19 #[val 5 x s r, val 2 x' s' r'] w fun e w' => e = .returned (plW ((false, 0))) ∧ Below w.heap.size w w' := by
  have qa := Lib.hid (fun w' => vMay_any 5 x s r w' (by decide) hx)
  have qb := Lib.hid (fun w' => vMay_any 2 x' s' r' w' (by decide) hy)
  have oa := Lib.hid (fun w' => vObj_any 5 x s r w')
  have ob := Lib.hid (fun w' => vObj_any 2 x' s' r' w')
  rw [ma] at qa
  rw [mb] at qb
  rw [show isObj 5 = false from by decide] at oa
  rw [show isObj 2 = false from by decide] at ob
  have qn := Lib.hid (fun w' => vNum_any x' w')
  unfold val at *
  clear ma mb hx hy
  go_enter Tryd.func19, Tryd.ntmps19
  go_wp2_with fail
  refine (qa.out _).mono ?_; rintro e w1 ⟨rfl, b1⟩
  obtain ⟨hc, hf⟩ := bcell b1
  have B1 := Lib.hid b1
  clear b1
  go_wp2_with fail
  refine (qb.out _).mono ?_; rintro e w2 ⟨rfl, b2⟩
  have B2 := Lib.hid (B1.out.trans (b2.mono B1.out.size))
  clear b2 hc hf
  obtain ⟨hc, hf⟩ := bcell B2.out
  go_wp2_with fail
  refine (oa.out _).mono ?_; rintro e w3 ⟨rfl, b3⟩
  have B3 := Lib.hid (B2.out.trans (b3.mono B2.out.size))
  clear b3 hc hf
  obtain ⟨hc, hf⟩ := bcell B3.out
  go_wp2_with fail
  refine (ob.out _).mono ?_; rintro e w4 ⟨rfl, b4⟩
  have B4 := Lib.hid (B3.out.trans (b4.mono B3.out.size))
  clear b4 hc hf
  obtain ⟨hc, hf⟩ := bcell B4.out
  go_wp2_with fail
  refine (qn.out _).mono ?_; rintro e w5 ⟨rfl, b5⟩
  have B5 := Lib.hid (B4.out.trans (b5.mono B4.out.size))
  clear b5 hc hf
  obtain ⟨hc, hf⟩ := bcell B5.out
  have hz5 : w.heap.size + 1 < w5.heap.size := by have := B5.out.size; simp at this; omega
  have hz6 : w.heap.size < w5.heap.size := by omega
  have C5 := Lib.hid (below_store (below_three B5.out) (Nat.le_succ _) (.int .u8 3) (.float .f64 x') (.string ByteArray.empty) (.int .i64 0))
  go_wp2
  go_ret2
  exact ⟨rfl, C5.out⟩

set_option maxHeartbeats 4000000 in
theorem vPlain_5_3 (x : Nat) (s : ByteArray) (r : Int) (x' : Nat) (s' : ByteArray) (r' : Int) (w : World) (hx : x < 18446744073709551616) (hy : x' < 18446744073709551616) (ma : mayV 5 x s r = true) (mb : mayV 3 x' s' r' = true) :
    Calls Tryd.prog 19 #[val 5 x s r, val 3 x' s' r'] w fun e w' => e = .returned (plW ((false, 0))) ∧ Below w.heap.size w w' := by
  have qa := Lib.hid (fun w' => vMay_any 5 x s r w' (by decide) hx)
  have qb := Lib.hid (fun w' => vMay_any 3 x' s' r' w' (by decide) hy)
  have oa := Lib.hid (fun w' => vObj_any 5 x s r w')
  have ob := Lib.hid (fun w' => vObj_any 3 x' s' r' w')
  rw [ma] at qa
  rw [mb] at qb
  rw [show isObj 5 = false from by decide] at oa
  rw [show isObj 3 = false from by decide] at ob
  unfold val at *
  clear ma mb hx hy
  go_enter Tryd.func19, Tryd.ntmps19
  go_wp2_with fail
  refine (qa.out _).mono ?_; rintro e w1 ⟨rfl, b1⟩
  obtain ⟨hc, hf⟩ := bcell b1
  have B1 := Lib.hid b1
  clear b1
  go_wp2_with fail
  refine (qb.out _).mono ?_; rintro e w2 ⟨rfl, b2⟩
  have B2 := Lib.hid (B1.out.trans (b2.mono B1.out.size))
  clear b2 hc hf
  obtain ⟨hc, hf⟩ := bcell B2.out
  go_wp2_with fail
  refine (oa.out _).mono ?_; rintro e w3 ⟨rfl, b3⟩
  have B3 := Lib.hid (B2.out.trans (b3.mono B2.out.size))
  clear b3 hc hf
  obtain ⟨hc, hf⟩ := bcell B3.out
  go_wp2_with fail
  refine (ob.out _).mono ?_; rintro e w4 ⟨rfl, b4⟩
  have B4 := Lib.hid (B3.out.trans (b4.mono B3.out.size))
  clear b4 hc hf
  obtain ⟨hc, hf⟩ := bcell B4.out
  go_wp2
  go_ret2
  exact ⟨rfl, below_three B4.out⟩

set_option maxHeartbeats 4000000 in
theorem vPlain_5_4 (x : Nat) (s : ByteArray) (r : Int) (x' : Nat) (s' : ByteArray) (r' : Int) (w : World) (hx : x < 18446744073709551616) (hy : x' < 18446744073709551616) (ma : mayV 5 x s r = true) (mb : mayV 4 x' s' r' = true) :
    Calls Tryd.prog 19 #[val 5 x s r, val 4 x' s' r'] w fun e w' => e = .returned (plW ((false, 0))) ∧ Below w.heap.size w w' := by
  have qa := Lib.hid (fun w' => vMay_any 5 x s r w' (by decide) hx)
  have qb := Lib.hid (fun w' => vMay_any 4 x' s' r' w' (by decide) hy)
  have oa := Lib.hid (fun w' => vObj_any 5 x s r w')
  have ob := Lib.hid (fun w' => vObj_any 4 x' s' r' w')
  rw [ma] at qa
  rw [mb] at qb
  rw [show isObj 5 = false from by decide] at oa
  rw [show isObj 4 = false from by decide] at ob
  unfold val at *
  clear ma mb hx hy
  go_enter Tryd.func19, Tryd.ntmps19
  go_wp2_with fail
  refine (qa.out _).mono ?_; rintro e w1 ⟨rfl, b1⟩
  obtain ⟨hc, hf⟩ := bcell b1
  have B1 := Lib.hid b1
  clear b1
  go_wp2_with fail
  refine (qb.out _).mono ?_; rintro e w2 ⟨rfl, b2⟩
  have B2 := Lib.hid (B1.out.trans (b2.mono B1.out.size))
  clear b2 hc hf
  obtain ⟨hc, hf⟩ := bcell B2.out
  go_wp2_with fail
  refine (oa.out _).mono ?_; rintro e w3 ⟨rfl, b3⟩
  have B3 := Lib.hid (B2.out.trans (b3.mono B2.out.size))
  clear b3 hc hf
  obtain ⟨hc, hf⟩ := bcell B3.out
  go_wp2_with fail
  refine (ob.out _).mono ?_; rintro e w4 ⟨rfl, b4⟩
  have B4 := Lib.hid (B3.out.trans (b4.mono B3.out.size))
  clear b4 hc hf
  obtain ⟨hc, hf⟩ := bcell B4.out
  go_wp2
  go_ret2
  exact ⟨rfl, below_three B4.out⟩

set_option maxHeartbeats 4000000 in
theorem vPlain_5_5 (x : Nat) (s : ByteArray) (r : Int) (x' : Nat) (s' : ByteArray) (r' : Int) (w : World) (hx : x < 18446744073709551616) (hy : x' < 18446744073709551616) (ma : mayV 5 x s r = true) (mb : mayV 5 x' s' r' = true) :
    Calls Tryd.prog 19 #[val 5 x s r, val 5 x' s' r'] w fun e w' => e = .returned (plW ((strictV 5 x s r 5 x' s' r', 0))) ∧ Below w.heap.size w w' := by
  have qa := Lib.hid (fun w' => vMay_any 5 x s r w' (by decide) hx)
  have qb := Lib.hid (fun w' => vMay_any 5 x' s' r' w' (by decide) hy)
  have oa := Lib.hid (fun w' => vObj_any 5 x s r w')
  have ob := Lib.hid (fun w' => vObj_any 5 x' s' r' w')
  rw [ma] at qa
  rw [mb] at qb
  rw [show isObj 5 = false from by decide] at oa
  rw [show isObj 5 = false from by decide] at ob
  have qs := Lib.hid (fun w' => vStrict_any 5 x s r 5 x' s' r' w' hx hy)
  generalize strictV 5 x s r 5 x' s' r' = V at *
  unfold val at *
  clear ma mb hx hy
  go_enter Tryd.func19, Tryd.ntmps19
  go_wp2_with fail
  refine (qa.out _).mono ?_; rintro e w1 ⟨rfl, b1⟩
  obtain ⟨hc, hf⟩ := bcell b1
  have B1 := Lib.hid b1
  clear b1
  go_wp2_with fail
  refine (qb.out _).mono ?_; rintro e w2 ⟨rfl, b2⟩
  have B2 := Lib.hid (B1.out.trans (b2.mono B1.out.size))
  clear b2 hc hf
  obtain ⟨hc, hf⟩ := bcell B2.out
  go_wp2_with fail
  refine (oa.out _).mono ?_; rintro e w3 ⟨rfl, b3⟩
  have B3 := Lib.hid (B2.out.trans (b3.mono B2.out.size))
  clear b3 hc hf
  obtain ⟨hc, hf⟩ := bcell B3.out
  go_wp2_with fail
  refine (ob.out _).mono ?_; rintro e w4 ⟨rfl, b4⟩
  have B4 := Lib.hid (B3.out.trans (b4.mono B3.out.size))
  clear b4 hc hf
  obtain ⟨hc, hf⟩ := bcell B4.out
  go_wp2_with fail
  refine (qs.out _).mono ?_; rintro e w5 ⟨rfl, b5⟩
  have B5 := Lib.hid (B4.out.trans (b5.mono B4.out.size))
  clear b5 hc hf
  obtain ⟨hc, hf⟩ := bcell B5.out
  go_wp2
  go_ret2
  exact ⟨rfl, below_three B5.out⟩


set_option maxHeartbeats 4000000 in
theorem vPlain_bad (k : Int) (x : Nat) (s : ByteArray) (r : Int) (k' : Int) (x' : Nat) (s' : ByteArray) (r' : Int) (w : World) (hk : 0 ≤ k) (hk' : 0 ≤ k') (hx : x < 18446744073709551616) (hy : x' < 18446744073709551616)
    (h : ¬ (mayV k x s r = true ∧ mayV k' x' s' r' = true ∧ isObj k = false ∧ isObj k' = false)) :
    Calls Tryd.prog 19 #[val k x s r, val k' x' s' r'] w fun e w' => e = .returned (plW (false, 9)) ∧ Below w.heap.size w w' := by
  have qa := Lib.hid (fun w' => vMay_any k x s r w' hk hx)
  have qb := Lib.hid (fun w' => vMay_any k' x' s' r' w' hk' hy)
  have oa := Lib.hid (fun w' => vObj_any k x s r w')
  have ob := Lib.hid (fun w' => vObj_any k' x' s' r' w')
  clear hx hy
  cases m1 : mayV k x s r with
  | false =>
    rw [m1] at qa
    unfold val at *
    clear m1 h
    go_enter Tryd.func19, Tryd.ntmps19
    go_wp2_with fail
    refine (qa.out _).mono ?_; rintro e w1 ⟨rfl, b1⟩
    obtain ⟨hc, hf⟩ := bcell b1
    have B1 := Lib.hid b1
    clear b1
    go_wp2
    go_ret2
    exact ⟨rfl, below_three B1.out⟩
  | true =>
    rw [m1] at qa
    cases m2 : mayV k' x' s' r' with
    | false =>
      rw [m2] at qb
      unfold val at *
      clear m1 m2 h
      go_enter Tryd.func19, Tryd.ntmps19
      go_wp2_with fail
      refine (qa.out _).mono ?_; rintro e w1 ⟨rfl, b1⟩
      obtain ⟨hc, hf⟩ := bcell b1
      have B1 := Lib.hid b1
      clear b1
      go_wp2_with fail
      refine (qb.out _).mono ?_; rintro e w2 ⟨rfl, b2⟩
      have B2 := Lib.hid (B1.out.trans (b2.mono B1.out.size))
      clear b2 hc hf
      obtain ⟨hc, hf⟩ := bcell B2.out
      go_wp2
      go_ret2
      exact ⟨rfl, below_three B2.out⟩
    | true =>
      rw [m2] at qb
      cases o1 : isObj k with
      | true =>
        rw [o1] at oa
        unfold val at *
        clear m1 m2 o1 h
        go_enter Tryd.func19, Tryd.ntmps19
        go_wp2_with fail
        refine (qa.out _).mono ?_; rintro e w1 ⟨rfl, b1⟩
        obtain ⟨hc, hf⟩ := bcell b1
        have B1 := Lib.hid b1
        clear b1
        go_wp2_with fail
        refine (qb.out _).mono ?_; rintro e w2 ⟨rfl, b2⟩
        have B2 := Lib.hid (B1.out.trans (b2.mono B1.out.size))
        clear b2 hc hf
        obtain ⟨hc, hf⟩ := bcell B2.out
        go_wp2_with fail
        refine (oa.out _).mono ?_; rintro e w3 ⟨rfl, b3⟩
        have B3 := Lib.hid (B2.out.trans (b3.mono B2.out.size))
        clear b3 hc hf
        obtain ⟨hc, hf⟩ := bcell B3.out
        go_wp2
        go_ret2
        exact ⟨rfl, below_three B3.out⟩
      | false =>
        rw [o1] at oa
        have o2 : isObj k' = true := by
          cases o2 : isObj k' with
          | true => rfl
          | false => exact absurd ⟨m1, m2, o1, o2⟩ h
        rw [o2] at ob
        unfold val at *
        clear m1 m2 o1 o2 h
        go_enter Tryd.func19, Tryd.ntmps19
        go_wp2_with fail
        refine (qa.out _).mono ?_; rintro e w1 ⟨rfl, b1⟩
        obtain ⟨hc, hf⟩ := bcell b1
        have B1 := Lib.hid b1
        clear b1
        go_wp2_with fail
        refine (qb.out _).mono ?_; rintro e w2 ⟨rfl, b2⟩
        have B2 := Lib.hid (B1.out.trans (b2.mono B1.out.size))
        clear b2 hc hf
        obtain ⟨hc, hf⟩ := bcell B2.out
        go_wp2_with fail
        refine (oa.out _).mono ?_; rintro e w3 ⟨rfl, b3⟩
        have B3 := Lib.hid (B2.out.trans (b3.mono B2.out.size))
        clear b3 hc hf
        obtain ⟨hc, hf⟩ := bcell B3.out
        go_wp2_with fail
        refine (ob.out _).mono ?_; rintro e w4 ⟨rfl, b4⟩
        have B4 := Lib.hid (B3.out.trans (b4.mono B3.out.size))
        clear b4 hc hf
        obtain ⟨hc, hf⟩ := bcell B4.out
        go_wp2
        go_ret2
        exact ⟨rfl, below_three B4.out⟩

theorem small_kind {k : Int} {x : Nat} {s : ByteArray} {r : Int} (hk : 0 ≤ k) (m : mayV k x s r = true) (o : isObj k = false) : k = 0 ∨ k = 1 ∨ k = 2 ∨ k = 3 ∨ k = 4 ∨ k = 5 := by
  have h1 : k ≤ 8 := by unfold mayV at m; simp only [Bool.and_eq_true, decide_eq_true_iff] at m; exact m.1.1.1
  have := isObj_false o
  omega

theorem vPlain_any (k : Int) (x : Nat) (s : ByteArray) (r : Int) (k' : Int) (x' : Nat) (s' : ByteArray) (r' : Int) (w : World) (hk : 0 ≤ k) (hk' : 0 ≤ k') (hx : x < 18446744073709551616) (hy : x' < 18446744073709551616) :
    Calls Tryd.prog 19 #[val k x s r, val k' x' s' r'] w fun e w' => e = .returned (plW (plainG k x s r k' x' s' r')) ∧ Below w.heap.size w w' := by
  by_cases h : mayV k x s r = true ∧ mayV k' x' s' r' = true ∧ isObj k = false ∧ isObj k' = false
  · have hg : plainG k x s r k' x' s' r' = plainS k x s r k' x' s' r' := by unfold plainG; rw [if_pos h]
    rw [hg]
    obtain ⟨ma, mb, o1, o2⟩ := h
    clear hg
    rcases small_kind hk ma o1 with rfl | rfl | rfl | rfl | rfl | rfl <;> rcases small_kind hk' mb o2 with rfl | rfl | rfl | rfl | rfl | rfl
    · exact vPlain_0_0 x s r x' s' r' w hx hy ma mb
    · exact vPlain_0_1 x s r x' s' r' w hx hy ma mb
    · exact vPlain_0_2 x s r x' s' r' w hx hy ma mb
    · exact vPlain_0_3 x s r x' s' r' w hx hy ma mb
    · exact vPlain_0_4 x s r x' s' r' w hx hy ma mb
    · exact vPlain_0_5 x s r x' s' r' w hx hy ma mb
    · exact vPlain_1_0 x s r x' s' r' w hx hy ma mb
    · exact vPlain_1_1 x s r x' s' r' w hx hy ma mb
    · exact vPlain_1_2 x s r x' s' r' w hx hy ma mb
    · exact vPlain_1_3 x s r x' s' r' w hx hy ma mb
    · exact vPlain_1_4 x s r x' s' r' w hx hy ma mb
    · exact vPlain_1_5 x s r x' s' r' w hx hy ma mb
    · exact vPlain_2_0 x s r x' s' r' w hx hy ma mb
    · exact vPlain_2_1 x s r x' s' r' w hx hy ma mb
    · exact vPlain_2_2 x s r x' s' r' w hx hy ma mb
    · exact vPlain_2_3 x s r x' s' r' w hx hy ma mb
    · exact vPlain_2_4 x s r x' s' r' w hx hy ma mb
    · exact vPlain_2_5 x s r x' s' r' w hx hy ma mb
    · exact vPlain_3_0 x s r x' s' r' w hx hy ma mb
    · exact vPlain_3_1 x s r x' s' r' w hx hy ma mb
    · exact vPlain_3_2 x s r x' s' r' w hx hy ma mb
    · exact vPlain_3_3 x s r x' s' r' w hx hy ma mb
    · exact vPlain_3_4 x s r x' s' r' w hx hy ma mb
    · exact vPlain_3_5 x s r x' s' r' w hx hy ma mb
    · exact vPlain_4_0 x s r x' s' r' w hx hy ma mb
    · exact vPlain_4_1 x s r x' s' r' w hx hy ma mb
    · exact vPlain_4_2 x s r x' s' r' w hx hy ma mb
    · exact vPlain_4_3 x s r x' s' r' w hx hy ma mb
    · exact vPlain_4_4 x s r x' s' r' w hx hy ma mb
    · exact vPlain_4_5 x s r x' s' r' w hx hy ma mb
    · exact vPlain_5_0 x s r x' s' r' w hx hy ma mb
    · exact vPlain_5_1 x s r x' s' r' w hx hy ma mb
    · exact vPlain_5_2 x s r x' s' r' w hx hy ma mb
    · exact vPlain_5_3 x s r x' s' r' w hx hy ma mb
    · exact vPlain_5_4 x s r x' s' r' w hx hy ma mb
    · exact vPlain_5_5 x s r x' s' r' w hx hy ma mb
  · have hg : plainG k x s r k' x' s' r' = (false, 9) := by unfold plainG; rw [if_neg h]
    rw [hg]
    exact vPlain_bad k x s r k' x' s' r' w hk hk' hx hy h
end Go.Proofs.YtajmdpndbfmdmaaDoor
