/-
  value.IsObject, Strict and Same, and the document's, return the same. Conditions: the numbers are words of 64 bits, the kinds bytes.
-/
import Derived.Test.YtajmdpndbfmdmaaDoorValB
namespace Go.Proofs.YtajmdpndbfmdmaaDoor
open Go Go.RowKit

def isObj (k : Int) : Bool := decide (6 ≤ k) && decide (k ≤ 8)
/-- Are two values the same by ===? -/
def strictV (k : Int) (x : Nat) (s : ByteArray) (r : Int) (k' : Int) (x' : Nat) (s' : ByteArray) (r' : Int) : Bool :=
  if isObj k = true ∧ isObj k' = true then r == r' else if k ≠ k' then false
  else if k = 0 ∨ k = 1 then true else if k = 2 ∨ k = 3 then Fl.feq x x' else if k = 4 then s.toList == s'.toList else if k = 5 then r == r' else false
def sameV (k : Int) (x : Nat) (s : ByteArray) (r : Int) (k' : Int) (x' : Nat) (s' : ByteArray) (r' : Int) : Bool :=
  if k = 3 ∧ k' = 3 ∧ Fl.isN x = true then Fl.isN x' else strictV k x s r k' x' s' r'

theorem isObj_true {k : Int} (h : isObj k = true) : 6 ≤ k ∧ k ≤ 8 := by unfold isObj at h; simpa using h
theorem isObj_false {k : Int} (h : isObj k = false) : k < 6 ∨ 8 < k := by unfold isObj at h; simp at h; omega

theorem bcell {W w1 : World} (hb : Below W.heap.size W w1) : (∀ b o, b < W.heap.size → w1.cell? ⟨b, o, none⟩ = W.cell? ⟨b, o, none⟩) ∧ (∀ b o, b < W.heap.size → w1.frozen? ⟨b, o, none⟩ = W.frozen? ⟨b, o, none⟩) :=
  ⟨fun b o h => hb.cell (p := ⟨b, o, none⟩) h, fun b o h => hb.frozen (p := ⟨b, o, none⟩) h⟩
theorem below_three {w w' : World} {a b : Obj} (h : Below ((w.alloc a).alloc b).heap.size ((w.alloc a).alloc b) w') : Below w.heap.size w w' :=
  below_two.trans (h.mono (by simp; omega))
theorem below_step {w w' : World} {a : Obj} (h : Below (w.alloc a).heap.size (w.alloc a) w') : Below w.heap.size w w' :=
  below_one.trans (h.mono (by simp))

theorem vObj_any (k : Int) (x : Nat) (s : ByteArray) (r : Int) (w : World) :
    Calls Tryd.prog 68 #[val k x s r] w fun e w' => e = .returned (.bool (isObj k)) ∧ Below w.heap.size w w' := by
  unfold val
  by_cases h : 6 ≤ k ∧ k ≤ 8
  · have hr : isObj k = true := by unfold isObj; simp [h.1, h.2]
    rw [hr]
    clear hr
    have hc : k = 6 ∨ k = 7 ∨ k = 8 := by omega
    clear h
    rcases hc with rfl | rfl | rfl
    all_goals
      go_enter Tryd.func68, Tryd.ntmps68
      go_wp2
      go_ret
      exact ⟨rfl, below_one⟩
  · have hr : isObj k = false := by unfold isObj; rw [Bool.and_eq_false_iff, decide_eq_false_iff_not, decide_eq_false_iff_not]; omega
    rw [hr]
    clear hr
    have h6 : (k == 6) = false := by rw [beq_eq_false_iff_ne]; omega
    have h7 : (k == 7) = false := by rw [beq_eq_false_iff_ne]; omega
    have h8 : (k == 8) = false := by rw [beq_eq_false_iff_ne]; omega
    by_cases h1 : 6 ≤ k
    · have h2 : ¬ k ≤ 8 := by omega
      clear h
      go_enter Tryd.func68, Tryd.ntmps68
      go_wp2
      go_ret
      exact ⟨rfl, below_one⟩
    · clear h
      go_enter Tryd.func68, Tryd.ntmps68
      go_wp2
      go_ret
      exact ⟨rfl, below_one⟩

theorem rObj_any (k : Int) (x : Nat) (s : ByteArray) (r : Int) (w : World) :
    Calls Tryd.prog 82 #[val k x s r] w fun e w' => e = .returned (.bool (isObj k)) ∧ Below w.heap.size w w' := by
  unfold val
  by_cases h : 6 ≤ k ∧ k ≤ 8
  · have hr : isObj k = true := by unfold isObj; simp [h.1, h.2]
    rw [hr]
    clear hr
    have hc : k = 6 ∨ k = 7 ∨ k = 8 := by omega
    clear h
    rcases hc with rfl | rfl | rfl
    all_goals
      go_enter Tryd.func82, Tryd.ntmps82
      go_wp2
      go_ret
      exact ⟨rfl, below_one⟩
  · have hr : isObj k = false := by unfold isObj; rw [Bool.and_eq_false_iff, decide_eq_false_iff_not, decide_eq_false_iff_not]; omega
    rw [hr]
    clear hr
    have h6 : (k == 6) = false := by rw [beq_eq_false_iff_ne]; omega
    have h7 : (k == 7) = false := by rw [beq_eq_false_iff_ne]; omega
    have h8 : (k == 8) = false := by rw [beq_eq_false_iff_ne]; omega
    by_cases h1 : 6 ≤ k
    · have h2 : ¬ k ≤ 8 := by omega
      clear h
      go_enter Tryd.func82, Tryd.ntmps82
      go_wp2
      go_ret
      exact ⟨rfl, below_one⟩
    · clear h
      go_enter Tryd.func82, Tryd.ntmps82
      go_wp2
      go_ret
      exact ⟨rfl, below_one⟩

set_option maxHeartbeats 4000000 in
theorem vStrict_any (k : Int) (x : Nat) (s : ByteArray) (r : Int) (k' : Int) (x' : Nat) (s' : ByteArray) (r' : Int) (w : World) (hx : x < 18446744073709551616) (hy : x' < 18446744073709551616) :
    Calls Tryd.prog 23 #[val k x s r, val k' x' s' r'] w fun e w' => e = .returned (.bool (strictV k x s r k' x' s' r')) ∧ Below w.heap.size w w' := by
  have qa := Lib.hid (fun w' => vObj_any k x s r w')
  have qb := Lib.hid (fun w' => vObj_any k' x' s' r' w')
  unfold val at *
  cases o1 : isObj k with
  | true =>
    have g1 := isObj_true o1
    rw [o1] at qa
    cases o2 : isObj k' with
    | true =>
      have g2 := isObj_true o2
      rw [o2] at qb
      have hres : strictV k x s r k' x' s' r' = (r == r') := by unfold strictV; simp [o1, o2]
      rw [hres]
      clear o1 o2 g1 g2 hx hy
      clear hres
      go_enter Tryd.func23, Tryd.ntmps23
      go_wp2_with fail
      refine (qa.out _).mono ?_; rintro e w1 ⟨rfl, b1⟩
      obtain ⟨hc, hf⟩ := bcell b1
      have B1 := Lib.hid b1
      clear b1
      go_wp2_with fail
      refine (qb.out _).mono ?_; rintro e w2 ⟨rfl, b2⟩
      have B2 := Lib.hid (B1.out.trans (b2.mono B1.out.size))
      clear b2 hc hf
      obtain ⟨hc, hf⟩ := bcell B2.out
      go_wp2
      all_goals
        go_ret
        exact ⟨rfl, below_three B2.out⟩
    | false =>
      have g2 := isObj_false o2
      rw [o2] at qb
      have hne : ¬ k = k' := by omega
      have hn1 : (k == k') = false := by rw [beq_eq_false_iff_ne]; exact hne
      have hres : strictV k x s r k' x' s' r' = false := by unfold strictV; simp [o2, hne]
      rw [hres]
      clear o1 o2 g1 g2 hx hy
      clear hres
      go_enter Tryd.func23, Tryd.ntmps23
      go_wp2_with fail
      refine (qa.out _).mono ?_; rintro e w1 ⟨rfl, b1⟩
      obtain ⟨hc, hf⟩ := bcell b1
      have B1 := Lib.hid b1
      clear b1
      go_wp2_with fail
      refine (qb.out _).mono ?_; rintro e w2 ⟨rfl, b2⟩
      have B2 := Lib.hid (B1.out.trans (b2.mono B1.out.size))
      clear b2 hc hf
      obtain ⟨hc, hf⟩ := bcell B2.out
      go_wp2
      all_goals
        go_ret
        exact ⟨rfl, below_three B2.out⟩
  | false =>
    have g1 := isObj_false o1
    rw [o1] at qa
    clear qb
    by_cases hne : k = k'
    · subst hne
      by_cases k0 : k = 0
      · subst k0
        have hres : strictV 0 x s r 0 x' s' r' = true := by unfold strictV; rfl
        rw [hres]
        clear o1 g1
        clear hx hy
        clear hres
        go_enter Tryd.func23, Tryd.ntmps23
        go_wp2_with fail
        refine (qa.out _).mono ?_; rintro e w1 ⟨rfl, b1⟩
        obtain ⟨hc, hf⟩ := bcell b1
        have B1 := Lib.hid b1
        clear b1
        go_wp2
        all_goals
          go_ret
          exact ⟨rfl, below_three B1.out⟩
      by_cases k1 : k = 1
      · subst k1
        have hres : strictV 1 x s r 1 x' s' r' = true := by unfold strictV; rfl
        rw [hres]
        clear o1 g1
        clear hx hy
        clear hres
        go_enter Tryd.func23, Tryd.ntmps23
        go_wp2_with fail
        refine (qa.out _).mono ?_; rintro e w1 ⟨rfl, b1⟩
        obtain ⟨hc, hf⟩ := bcell b1
        have B1 := Lib.hid b1
        clear b1
        go_wp2
        all_goals
          go_ret
          exact ⟨rfl, below_three B1.out⟩
      by_cases k2 : k = 2
      · subst k2
        have e1 := Fl.ord_eql hx hy
        have hres : strictV 2 x s r 2 x' s' r' = Fl.feq x x' := by unfold strictV; rfl
        rw [hres]
        clear o1 g1
        generalize Fl.feq x x' = q at *
        clear hx hy
        clear hres
        go_enter Tryd.func23, Tryd.ntmps23
        go_wp2_with fail
        refine (qa.out _).mono ?_; rintro e w1 ⟨rfl, b1⟩
        obtain ⟨hc, hf⟩ := bcell b1
        have B1 := Lib.hid b1
        clear b1
        go_wp2
        all_goals
          go_ret
          exact ⟨rfl, below_three B1.out⟩
      by_cases k3 : k = 3
      · subst k3
        have e1 := Fl.ord_eql hx hy
        have hres : strictV 3 x s r 3 x' s' r' = Fl.feq x x' := by unfold strictV; rfl
        rw [hres]
        clear o1 g1
        generalize Fl.feq x x' = q at *
        clear hx hy
        clear hres
        go_enter Tryd.func23, Tryd.ntmps23
        go_wp2_with fail
        refine (qa.out _).mono ?_; rintro e w1 ⟨rfl, b1⟩
        obtain ⟨hc, hf⟩ := bcell b1
        have B1 := Lib.hid b1
        clear b1
        go_wp2
        all_goals
          go_ret
          exact ⟨rfl, below_three B1.out⟩
      by_cases k4 : k = 4
      · subst k4
        have hres : strictV 4 x s r 4 x' s' r' = (s.toList == s'.toList) := by unfold strictV; rfl
        rw [hres]
        clear o1 g1
        clear hx hy
        clear hres
        go_enter Tryd.func23, Tryd.ntmps23
        go_wp2_with fail
        refine (qa.out _).mono ?_; rintro e w1 ⟨rfl, b1⟩
        obtain ⟨hc, hf⟩ := bcell b1
        have B1 := Lib.hid b1
        clear b1
        go_wp2
        all_goals
          go_ret
          exact ⟨rfl, below_three B1.out⟩
      by_cases k5 : k = 5
      · subst k5
        have hres : strictV 5 x s r 5 x' s' r' = (r == r') := by unfold strictV; rfl
        rw [hres]
        clear o1 g1
        clear hx hy
        clear hres
        go_enter Tryd.func23, Tryd.ntmps23
        go_wp2_with fail
        refine (qa.out _).mono ?_; rintro e w1 ⟨rfl, b1⟩
        obtain ⟨hc, hf⟩ := bcell b1
        have B1 := Lib.hid b1
        clear b1
        go_wp2
        all_goals
          go_ret
          exact ⟨rfl, below_three B1.out⟩
      have n0 : (k == 0) = false := by rw [beq_eq_false_iff_ne]; exact k0
      have n1 : (k == 1) = false := by rw [beq_eq_false_iff_ne]; exact k1
      have n2 : (k == 2) = false := by rw [beq_eq_false_iff_ne]; exact k2
      have n3 : (k == 3) = false := by rw [beq_eq_false_iff_ne]; exact k3
      have n4 : (k == 4) = false := by rw [beq_eq_false_iff_ne]; exact k4
      have n5 : (k == 5) = false := by rw [beq_eq_false_iff_ne]; exact k5
      have hres : strictV k x s r k x' s' r' = false := by unfold strictV; simp [o1, k0, k1, k2, k3, k4, k5]
      rw [hres]
      clear o1 g1 hx hy k0 k1 k2 k3 k4 k5
      clear hres
      go_enter Tryd.func23, Tryd.ntmps23
      go_wp2_with fail
      refine (qa.out _).mono ?_; rintro e w1 ⟨rfl, b1⟩
      obtain ⟨hc, hf⟩ := bcell b1
      have B1 := Lib.hid b1
      clear b1
      go_wp2
      all_goals
        go_ret
        exact ⟨rfl, below_three B1.out⟩
    · have hn1 : (k == k') = false := by rw [beq_eq_false_iff_ne]; exact hne
      have hres : strictV k x s r k' x' s' r' = false := by unfold strictV; simp [o1, hne]
      rw [hres]
      clear o1 g1 hx hy
      clear hres
      go_enter Tryd.func23, Tryd.ntmps23
      go_wp2_with fail
      refine (qa.out _).mono ?_; rintro e w1 ⟨rfl, b1⟩
      obtain ⟨hc, hf⟩ := bcell b1
      have B1 := Lib.hid b1
      clear b1
      go_wp2
      all_goals
        go_ret
        exact ⟨rfl, below_three B1.out⟩
set_option maxHeartbeats 4000000 in
theorem rSame_any (k : Int) (x : Nat) (s : ByteArray) (r : Int) (k' : Int) (x' : Nat) (s' : ByteArray) (r' : Int) (w : World) (hx : x < 18446744073709551616) (hy : x' < 18446744073709551616) :
    Calls Tryd.prog 22 #[val k x s r, val k' x' s' r'] w fun e w' => e = .returned (.bool (sameV k x s r k' x' s' r')) ∧ Below w.heap.size w w' := by
  have qa := Lib.hid (fun w' => rObj_any k x s r w')
  have qb := Lib.hid (fun w' => rObj_any k' x' s' r' w')
  unfold val at *
  cases o1 : isObj k with
  | true =>
    have g1 := isObj_true o1
    rw [o1] at qa
    cases o2 : isObj k' with
    | true =>
      have g2 := isObj_true o2
      rw [o2] at qb
      have hres : sameV k x s r k' x' s' r' = (r == r') := by unfold sameV strictV; rw [if_neg (by omega)]; simp [o1, o2]
      rw [hres]
      clear o1 o2 g1 g2 hx hy
      clear hres
      go_enter Tryd.func22, Tryd.ntmps22
      go_wp2_with fail
      refine (qa.out _).mono ?_; rintro e w1 ⟨rfl, b1⟩
      obtain ⟨hc, hf⟩ := bcell b1
      have B1 := Lib.hid b1
      clear b1
      go_wp2_with fail
      refine (qb.out _).mono ?_; rintro e w2 ⟨rfl, b2⟩
      have B2 := Lib.hid (B1.out.trans (b2.mono B1.out.size))
      clear b2 hc hf
      obtain ⟨hc, hf⟩ := bcell B2.out
      go_wp2
      all_goals
        go_ret
        exact ⟨rfl, below_three B2.out⟩
    | false =>
      have g2 := isObj_false o2
      rw [o2] at qb
      have hne : ¬ k = k' := by omega
      have hn1 : (k == k') = false := by rw [beq_eq_false_iff_ne]; exact hne
      have hres : sameV k x s r k' x' s' r' = false := by unfold sameV strictV; rw [if_neg (by omega)]; simp [o2, hne]
      rw [hres]
      clear o1 o2 g1 g2 hx hy
      clear hres
      go_enter Tryd.func22, Tryd.ntmps22
      go_wp2_with fail
      refine (qa.out _).mono ?_; rintro e w1 ⟨rfl, b1⟩
      obtain ⟨hc, hf⟩ := bcell b1
      have B1 := Lib.hid b1
      clear b1
      go_wp2_with fail
      refine (qb.out _).mono ?_; rintro e w2 ⟨rfl, b2⟩
      have B2 := Lib.hid (B1.out.trans (b2.mono B1.out.size))
      clear b2 hc hf
      obtain ⟨hc, hf⟩ := bcell B2.out
      go_wp2
      all_goals
        go_ret
        exact ⟨rfl, below_three B2.out⟩
  | false =>
    have g1 := isObj_false o1
    rw [o1] at qa
    clear qb
    by_cases hne : k = k'
    · subst hne
      by_cases k0 : k = 0
      · subst k0
        have hres : sameV 0 x s r 0 x' s' r' = true := by unfold sameV strictV; rfl
        rw [hres]
        clear o1 g1
        clear hx hy
        clear hres
        go_enter Tryd.func22, Tryd.ntmps22
        go_wp2_with fail
        refine (qa.out _).mono ?_; rintro e w1 ⟨rfl, b1⟩
        obtain ⟨hc, hf⟩ := bcell b1
        have B1 := Lib.hid b1
        clear b1
        go_wp2
        all_goals
          go_ret
          exact ⟨rfl, below_three B1.out⟩
      by_cases k1 : k = 1
      · subst k1
        have hres : sameV 1 x s r 1 x' s' r' = true := by unfold sameV strictV; rfl
        rw [hres]
        clear o1 g1
        clear hx hy
        clear hres
        go_enter Tryd.func22, Tryd.ntmps22
        go_wp2_with fail
        refine (qa.out _).mono ?_; rintro e w1 ⟨rfl, b1⟩
        obtain ⟨hc, hf⟩ := bcell b1
        have B1 := Lib.hid b1
        clear b1
        go_wp2
        all_goals
          go_ret
          exact ⟨rfl, below_three B1.out⟩
      by_cases k2 : k = 2
      · subst k2
        have e1 := Fl.ord_eql hx hy
        have hres : sameV 2 x s r 2 x' s' r' = Fl.feq x x' := by unfold sameV strictV; rfl
        rw [hres]
        clear o1 g1
        generalize Fl.feq x x' = q at *
        clear hx hy
        clear hres
        go_enter Tryd.func22, Tryd.ntmps22
        go_wp2_with fail
        refine (qa.out _).mono ?_; rintro e w1 ⟨rfl, b1⟩
        obtain ⟨hc, hf⟩ := bcell b1
        have B1 := Lib.hid b1
        clear b1
        go_wp2
        all_goals
          go_ret
          exact ⟨rfl, below_three B1.out⟩
      by_cases k3 : k = 3
      · subst k3
        have e1 := Fl.ord_eql hx hy
        have e2 := Fl.ord_neq hx hx
        have e3 := Fl.ord_neq hy hy
        rw [Fl.feq_self] at e2 e3
        cases n1 : Fl.isN x
        · cases f : Fl.feq x x'
          · rw [f] at e1
            rw [n1] at e2
            have hres : sameV 3 x s r 3 x' s' r' = false := by unfold sameV strictV; rw [n1, if_neg (by simp)]; exact f
            rw [hres]
            clear o1 g1
            clear hx hy f n1 e3
            clear hres
            go_enter Tryd.func22, Tryd.ntmps22
            go_wp2_with fail
            refine (qa.out _).mono ?_; rintro e w1 ⟨rfl, b1⟩
            obtain ⟨hc, hf⟩ := bcell b1
            have B1 := Lib.hid b1
            clear b1
            go_wp2
            all_goals
              go_ret
              exact ⟨rfl, below_three B1.out⟩
          · rw [f] at e1
            have hres : sameV 3 x s r 3 x' s' r' = true := by unfold sameV strictV; rw [n1, if_neg (by simp)]; exact f
            rw [hres]
            clear o1 g1
            clear hx hy f n1 e2 e3
            clear hres
            go_enter Tryd.func22, Tryd.ntmps22
            go_wp2_with fail
            refine (qa.out _).mono ?_; rintro e w1 ⟨rfl, b1⟩
            obtain ⟨hc, hf⟩ := bcell b1
            have B1 := Lib.hid b1
            clear b1
            go_wp2
            all_goals
              go_ret
              exact ⟨rfl, below_three B1.out⟩
        · have f : Fl.feq x x' = false := by unfold Fl.feq; rw [n1]; rfl
          rw [f] at e1
          rw [n1] at e2
          have hres : sameV 3 x s r 3 x' s' r' = Fl.isN x' := by unfold sameV strictV; rw [n1, if_pos ⟨rfl, rfl, rfl⟩]
          rw [hres]
          clear o1 g1
          clear hx hy f n1
          generalize Fl.isN x' = q at *
          clear hres
          cases q
          · go_enter Tryd.func22, Tryd.ntmps22
            go_wp2_with fail
            refine (qa.out _).mono ?_; rintro e w1 ⟨rfl, b1⟩
            obtain ⟨hc, hf⟩ := bcell b1
            have B1 := Lib.hid b1
            clear b1
            go_wp2
            all_goals
              go_ret
              exact ⟨rfl, below_three B1.out⟩
          · go_enter Tryd.func22, Tryd.ntmps22
            go_wp2_with fail
            refine (qa.out _).mono ?_; rintro e w1 ⟨rfl, b1⟩
            obtain ⟨hc, hf⟩ := bcell b1
            have B1 := Lib.hid b1
            clear b1
            go_wp2
            all_goals
              go_ret
              exact ⟨rfl, below_three B1.out⟩
      by_cases k4 : k = 4
      · subst k4
        have hres : sameV 4 x s r 4 x' s' r' = (s.toList == s'.toList) := by unfold sameV strictV; rfl
        rw [hres]
        clear o1 g1
        clear hx hy
        clear hres
        go_enter Tryd.func22, Tryd.ntmps22
        go_wp2_with fail
        refine (qa.out _).mono ?_; rintro e w1 ⟨rfl, b1⟩
        obtain ⟨hc, hf⟩ := bcell b1
        have B1 := Lib.hid b1
        clear b1
        go_wp2
        all_goals
          go_ret
          exact ⟨rfl, below_three B1.out⟩
      by_cases k5 : k = 5
      · subst k5
        have hres : sameV 5 x s r 5 x' s' r' = (r == r') := by unfold sameV strictV; rfl
        rw [hres]
        clear o1 g1
        clear hx hy
        clear hres
        go_enter Tryd.func22, Tryd.ntmps22
        go_wp2_with fail
        refine (qa.out _).mono ?_; rintro e w1 ⟨rfl, b1⟩
        obtain ⟨hc, hf⟩ := bcell b1
        have B1 := Lib.hid b1
        clear b1
        go_wp2
        all_goals
          go_ret
          exact ⟨rfl, below_three B1.out⟩
      have n0 : (k == 0) = false := by rw [beq_eq_false_iff_ne]; exact k0
      have n1 : (k == 1) = false := by rw [beq_eq_false_iff_ne]; exact k1
      have n2 : (k == 2) = false := by rw [beq_eq_false_iff_ne]; exact k2
      have n3 : (k == 3) = false := by rw [beq_eq_false_iff_ne]; exact k3
      have n4 : (k == 4) = false := by rw [beq_eq_false_iff_ne]; exact k4
      have n5 : (k == 5) = false := by rw [beq_eq_false_iff_ne]; exact k5
      have hres : sameV k x s r k x' s' r' = false := by unfold sameV strictV; simp [o1, k0, k1, k2, k3, k4, k5]
      rw [hres]
      clear o1 g1 hx hy k0 k1 k2 k3 k4 k5
      clear hres
      go_enter Tryd.func22, Tryd.ntmps22
      go_wp2_with fail
      refine (qa.out _).mono ?_; rintro e w1 ⟨rfl, b1⟩
      obtain ⟨hc, hf⟩ := bcell b1
      have B1 := Lib.hid b1
      clear b1
      go_wp2
      all_goals
        go_ret
        exact ⟨rfl, below_three B1.out⟩
    · have hn1 : (k == k') = false := by rw [beq_eq_false_iff_ne]; exact hne
      have hres : sameV k x s r k' x' s' r' = false := by unfold sameV strictV; rw [if_neg (by omega)]; simp [o1, hne]
      rw [hres]
      clear o1 g1 hx hy
      clear hres
      go_enter Tryd.func22, Tryd.ntmps22
      go_wp2_with fail
      refine (qa.out _).mono ?_; rintro e w1 ⟨rfl, b1⟩
      obtain ⟨hc, hf⟩ := bcell b1
      have B1 := Lib.hid b1
      clear b1
      go_wp2
      all_goals
        go_ret
        exact ⟨rfl, below_three B1.out⟩
end Go.Proofs.YtajmdpndbfmdmaaDoor
