/-
  The document's nought and May of values. Conditions: the number is a word of 64 bits, the kind a byte.
-/
import Derived.Test.YtajmdpndbfmdmaaDoorValB
import Derived.Test.YtajmdpndbfmdmaaDoorNuA
namespace Go.Proofs.YtajmdpndbfmdmaaDoor
open Go Go.RowKit

theorem nought_any (x : Nat) (w : World) (hx : x < 18446744073709551616) :
    Calls Tryd.prog 119 #[.float .f64 x] w fun e w' => e = .returned (.bool (decide (x = 0))) ∧ w = w' := by
  by_cases h0 : x = 0
  · subst h0
    have e1 : (FloatKind.f64.format.order 0 0 == some .eq) = true := by decide +kernel
    have e2 : (FloatKind.f64.format.order 9218868437227405312 0 == some .gt) = true := by decide +kernel
    have hrun := fun w' => run_float_arith (P := Tryd.prog) w' .quo 22 .f64 4607182418800017408 0 9218868437227405312 (by decide +kernel)
    go_enter Tryd.func119, Tryd.ntmps119
    go_wp2
    go_ret
    exact ⟨rfl, rfl⟩
  · by_cases h1 : x = 9223372036854775808
    · subst h1
      have e1 : (FloatKind.f64.format.order 9223372036854775808 0 == some .eq) = true := by decide +kernel
      have e2 : (FloatKind.f64.format.order 18442240474082181120 0 == some .gt) = false := by decide +kernel
      have hrun := fun w' => run_float_arith (P := Tryd.prog) w' .quo 22 .f64 4607182418800017408 9223372036854775808 18442240474082181120 (by decide +kernel)
      clear h0
      go_enter Tryd.func119, Tryd.ntmps119
      go_wp2
      go_ret
      exact ⟨rfl, rfl⟩
    · have hk : Fl.key x ≠ 0 := fun e => ((Fl.key_zero hx).1 e).elim h0 h1
      have e1 := Fl.ord_eql hx (y := 0) (by decide)
      have f0 : Fl.feq x 0 = false := by
        unfold Fl.feq
        rw [Fl.key_zero']
        simp [hk]
      rw [f0] at e1
      rw [decide_eq_false h0]
      clear h0 h1 hk f0 hx
      go_enter Tryd.func119, Tryd.ntmps119
      go_wp2
      go_ret
      exact ⟨rfl, rfl⟩

theorem rMay_big (k : Int) (x : Nat) (s : ByteArray) (r : Int) (w : World) (h1 : 8 < k) :
    Calls Tryd.prog 81 #[val k x s r] w fun e w' => e = .returned (.bool false) ∧ Below w.heap.size w w' := by
  unfold val
  go_enter Tryd.func81, Tryd.ntmps81
  go_wp2
  go_ret
  exact ⟨rfl, below_one⟩

set_option maxHeartbeats 2000000 in
theorem rMay_0 (x : Nat) (s : ByteArray) (r : Int) (w : World) (hx : x < 18446744073709551616) :
    Calls Tryd.prog 81 #[val 0 x s r] w fun e w' => e = .returned (.bool (mayV 0 x s r)) ∧ Below w.heap.size w w' := by
  have hQ := Lib.hid (fun w' => nought_any x w' hx)
  have hM := Lib.hid (fun w' => refMay_any x w' hx)
  have e2 := Fl.ord_eql hx (y := 4607182418800017408) (by decide)
  have hN := noughts hx
  unfold val
  by_cases h0 : x = 0
  · rw [decide_eq_true h0] at hQ
    clear hN hx e2
    by_cases hs : s.size = 0
    · obtain rfl := empty_of hs
      by_cases hr : r = 0
      · subst hr
        have hres : mayV 0 x ByteArray.empty 0 = true := by unfold mayV numV; simp [h0]
        rw [hres]
        clear hres
        try clear h0
        try clear h1
        try clear m
        try clear hs
        go_enter Tryd.func81, Tryd.ntmps81
        go_wp2_with fail
        refine (hQ.out _).mono ?_; rintro e w' ⟨rfl, rfl⟩
        go_wp2
        go_ret
        exact ⟨rfl, below_one⟩
      · have hr2 : (r == 0) = false := by rw [beq_eq_false_iff_ne]; exact hr
        have hres : mayV 0 x ByteArray.empty r = false := by unfold mayV numV; simp [h0, hr]
        rw [hres]
        clear hres
        try clear h0
        try clear h1
        try clear m
        try clear hs
        go_enter Tryd.func81, Tryd.ntmps81
        go_wp2_with fail
        refine (hQ.out _).mono ?_; rintro e w' ⟨rfl, rfl⟩
        go_wp2
        go_ret
        exact ⟨rfl, below_one⟩
    · have he := isEmpty_of hs
      have hn : s.toList ≠ [] := by intro e; rw [e] at he; cases he
      by_cases hr : r = 0
      · subst hr
        have hres : mayV 0 x s 0 = false := by unfold mayV numV; simp [h0, hs]
        rw [hres]
        clear hres
        try clear h0
        try clear h1
        try clear m
        try clear hs
        go_enter Tryd.func81, Tryd.ntmps81
        go_wp2_with fail
        refine (hQ.out _).mono ?_; rintro e w' ⟨rfl, rfl⟩
        go_wp2
        go_ret
        exact ⟨rfl, below_one⟩
      · have hr2 : (r == 0) = false := by rw [beq_eq_false_iff_ne]; exact hr
        have hres : mayV 0 x s r = false := by unfold mayV numV; simp [h0, hs, hr]
        rw [hres]
        clear hres
        try clear h0
        try clear h1
        try clear m
        try clear hs
        go_enter Tryd.func81, Tryd.ntmps81
        go_wp2_with fail
        refine (hQ.out _).mono ?_; rintro e w' ⟨rfl, rfl⟩
        go_wp2
        go_ret
        exact ⟨rfl, below_one⟩
  · rw [decide_eq_false h0] at hQ
    clear hN hx e2
    by_cases hs : s.size = 0
    · obtain rfl := empty_of hs
      by_cases hr : r = 0
      · subst hr
        have hres : mayV 0 x ByteArray.empty 0 = false := by unfold mayV numV; simp [h0]
        rw [hres]
        clear hres
        try clear h0
        try clear h1
        try clear m
        try clear hs
        go_enter Tryd.func81, Tryd.ntmps81
        go_wp2_with fail
        refine (hQ.out _).mono ?_; rintro e w' ⟨rfl, rfl⟩
        go_wp2
        go_ret
        exact ⟨rfl, below_one⟩
      · have hr2 : (r == 0) = false := by rw [beq_eq_false_iff_ne]; exact hr
        have hres : mayV 0 x ByteArray.empty r = false := by unfold mayV numV; simp [h0, hr]
        rw [hres]
        clear hres
        try clear h0
        try clear h1
        try clear m
        try clear hs
        go_enter Tryd.func81, Tryd.ntmps81
        go_wp2_with fail
        refine (hQ.out _).mono ?_; rintro e w' ⟨rfl, rfl⟩
        go_wp2
        go_ret
        exact ⟨rfl, below_one⟩
    · have he := isEmpty_of hs
      have hn : s.toList ≠ [] := by intro e; rw [e] at he; cases he
      by_cases hr : r = 0
      · subst hr
        have hres : mayV 0 x s 0 = false := by unfold mayV numV; simp [h0, hs]
        rw [hres]
        clear hres
        try clear h0
        try clear h1
        try clear m
        try clear hs
        go_enter Tryd.func81, Tryd.ntmps81
        go_wp2_with fail
        refine (hQ.out _).mono ?_; rintro e w' ⟨rfl, rfl⟩
        go_wp2
        go_ret
        exact ⟨rfl, below_one⟩
      · have hr2 : (r == 0) = false := by rw [beq_eq_false_iff_ne]; exact hr
        have hres : mayV 0 x s r = false := by unfold mayV numV; simp [h0, hs, hr]
        rw [hres]
        clear hres
        try clear h0
        try clear h1
        try clear m
        try clear hs
        go_enter Tryd.func81, Tryd.ntmps81
        go_wp2_with fail
        refine (hQ.out _).mono ?_; rintro e w' ⟨rfl, rfl⟩
        go_wp2
        go_ret
        exact ⟨rfl, below_one⟩
set_option maxHeartbeats 2000000 in
theorem rMay_1 (x : Nat) (s : ByteArray) (r : Int) (w : World) (hx : x < 18446744073709551616) :
    Calls Tryd.prog 81 #[val 1 x s r] w fun e w' => e = .returned (.bool (mayV 1 x s r)) ∧ Below w.heap.size w w' := by
  have hQ := Lib.hid (fun w' => nought_any x w' hx)
  have hM := Lib.hid (fun w' => refMay_any x w' hx)
  have e2 := Fl.ord_eql hx (y := 4607182418800017408) (by decide)
  have hN := noughts hx
  unfold val
  by_cases h0 : x = 0
  · rw [decide_eq_true h0] at hQ
    clear hN hx e2
    by_cases hs : s.size = 0
    · obtain rfl := empty_of hs
      by_cases hr : r = 0
      · subst hr
        have hres : mayV 1 x ByteArray.empty 0 = true := by unfold mayV numV; simp [h0]
        rw [hres]
        clear hres
        try clear h0
        try clear h1
        try clear m
        try clear hs
        go_enter Tryd.func81, Tryd.ntmps81
        go_wp2_with fail
        refine (hQ.out _).mono ?_; rintro e w' ⟨rfl, rfl⟩
        go_wp2
        go_ret
        exact ⟨rfl, below_one⟩
      · have hr2 : (r == 0) = false := by rw [beq_eq_false_iff_ne]; exact hr
        have hres : mayV 1 x ByteArray.empty r = false := by unfold mayV numV; simp [h0, hr]
        rw [hres]
        clear hres
        try clear h0
        try clear h1
        try clear m
        try clear hs
        go_enter Tryd.func81, Tryd.ntmps81
        go_wp2_with fail
        refine (hQ.out _).mono ?_; rintro e w' ⟨rfl, rfl⟩
        go_wp2
        go_ret
        exact ⟨rfl, below_one⟩
    · have he := isEmpty_of hs
      have hn : s.toList ≠ [] := by intro e; rw [e] at he; cases he
      by_cases hr : r = 0
      · subst hr
        have hres : mayV 1 x s 0 = false := by unfold mayV numV; simp [h0, hs]
        rw [hres]
        clear hres
        try clear h0
        try clear h1
        try clear m
        try clear hs
        go_enter Tryd.func81, Tryd.ntmps81
        go_wp2_with fail
        refine (hQ.out _).mono ?_; rintro e w' ⟨rfl, rfl⟩
        go_wp2
        go_ret
        exact ⟨rfl, below_one⟩
      · have hr2 : (r == 0) = false := by rw [beq_eq_false_iff_ne]; exact hr
        have hres : mayV 1 x s r = false := by unfold mayV numV; simp [h0, hs, hr]
        rw [hres]
        clear hres
        try clear h0
        try clear h1
        try clear m
        try clear hs
        go_enter Tryd.func81, Tryd.ntmps81
        go_wp2_with fail
        refine (hQ.out _).mono ?_; rintro e w' ⟨rfl, rfl⟩
        go_wp2
        go_ret
        exact ⟨rfl, below_one⟩
  · rw [decide_eq_false h0] at hQ
    clear hN hx e2
    by_cases hs : s.size = 0
    · obtain rfl := empty_of hs
      by_cases hr : r = 0
      · subst hr
        have hres : mayV 1 x ByteArray.empty 0 = false := by unfold mayV numV; simp [h0]
        rw [hres]
        clear hres
        try clear h0
        try clear h1
        try clear m
        try clear hs
        go_enter Tryd.func81, Tryd.ntmps81
        go_wp2_with fail
        refine (hQ.out _).mono ?_; rintro e w' ⟨rfl, rfl⟩
        go_wp2
        go_ret
        exact ⟨rfl, below_one⟩
      · have hr2 : (r == 0) = false := by rw [beq_eq_false_iff_ne]; exact hr
        have hres : mayV 1 x ByteArray.empty r = false := by unfold mayV numV; simp [h0, hr]
        rw [hres]
        clear hres
        try clear h0
        try clear h1
        try clear m
        try clear hs
        go_enter Tryd.func81, Tryd.ntmps81
        go_wp2_with fail
        refine (hQ.out _).mono ?_; rintro e w' ⟨rfl, rfl⟩
        go_wp2
        go_ret
        exact ⟨rfl, below_one⟩
    · have he := isEmpty_of hs
      have hn : s.toList ≠ [] := by intro e; rw [e] at he; cases he
      by_cases hr : r = 0
      · subst hr
        have hres : mayV 1 x s 0 = false := by unfold mayV numV; simp [h0, hs]
        rw [hres]
        clear hres
        try clear h0
        try clear h1
        try clear m
        try clear hs
        go_enter Tryd.func81, Tryd.ntmps81
        go_wp2_with fail
        refine (hQ.out _).mono ?_; rintro e w' ⟨rfl, rfl⟩
        go_wp2
        go_ret
        exact ⟨rfl, below_one⟩
      · have hr2 : (r == 0) = false := by rw [beq_eq_false_iff_ne]; exact hr
        have hres : mayV 1 x s r = false := by unfold mayV numV; simp [h0, hs, hr]
        rw [hres]
        clear hres
        try clear h0
        try clear h1
        try clear m
        try clear hs
        go_enter Tryd.func81, Tryd.ntmps81
        go_wp2_with fail
        refine (hQ.out _).mono ?_; rintro e w' ⟨rfl, rfl⟩
        go_wp2
        go_ret
        exact ⟨rfl, below_one⟩
set_option maxHeartbeats 2000000 in
theorem rMay_2 (x : Nat) (s : ByteArray) (r : Int) (w : World) (hx : x < 18446744073709551616) :
    Calls Tryd.prog 81 #[val 2 x s r] w fun e w' => e = .returned (.bool (mayV 2 x s r)) ∧ Below w.heap.size w w' := by
  have hQ := Lib.hid (fun w' => nought_any x w' hx)
  have hM := Lib.hid (fun w' => refMay_any x w' hx)
  have e2 := Fl.ord_eql hx (y := 4607182418800017408) (by decide)
  have hN := noughts hx
  unfold val
  by_cases h0 : x = 0
  · rw [decide_eq_true h0] at hQ
    clear hN hx e2
    by_cases hs : s.size = 0
    · obtain rfl := empty_of hs
      by_cases hr : r = 0
      · subst hr
        have hres : mayV 2 x ByteArray.empty 0 = true := by unfold mayV numV; simp [h0]
        rw [hres]
        clear hres
        try clear h0
        try clear h1
        try clear m
        try clear hs
        go_enter Tryd.func81, Tryd.ntmps81
        go_wp2_with fail
        refine (hQ.out _).mono ?_; rintro e w' ⟨rfl, rfl⟩
        go_wp2
        go_ret
        exact ⟨rfl, below_one⟩
      · have hr2 : (r == 0) = false := by rw [beq_eq_false_iff_ne]; exact hr
        have hres : mayV 2 x ByteArray.empty r = false := by unfold mayV numV; simp [h0, hr]
        rw [hres]
        clear hres
        try clear h0
        try clear h1
        try clear m
        try clear hs
        go_enter Tryd.func81, Tryd.ntmps81
        go_wp2_with fail
        refine (hQ.out _).mono ?_; rintro e w' ⟨rfl, rfl⟩
        go_wp2
        go_ret
        exact ⟨rfl, below_one⟩
    · have he := isEmpty_of hs
      have hn : s.toList ≠ [] := by intro e; rw [e] at he; cases he
      by_cases hr : r = 0
      · subst hr
        have hres : mayV 2 x s 0 = false := by unfold mayV numV; simp [h0, hs]
        rw [hres]
        clear hres
        try clear h0
        try clear h1
        try clear m
        try clear hs
        go_enter Tryd.func81, Tryd.ntmps81
        go_wp2_with fail
        refine (hQ.out _).mono ?_; rintro e w' ⟨rfl, rfl⟩
        go_wp2
        go_ret
        exact ⟨rfl, below_one⟩
      · have hr2 : (r == 0) = false := by rw [beq_eq_false_iff_ne]; exact hr
        have hres : mayV 2 x s r = false := by unfold mayV numV; simp [h0, hs, hr]
        rw [hres]
        clear hres
        try clear h0
        try clear h1
        try clear m
        try clear hs
        go_enter Tryd.func81, Tryd.ntmps81
        go_wp2_with fail
        refine (hQ.out _).mono ?_; rintro e w' ⟨rfl, rfl⟩
        go_wp2
        go_ret
        exact ⟨rfl, below_one⟩
  · rw [decide_eq_false h0] at hQ
    by_cases h1 : x = 4607182418800017408
    · subst h1
      have e3 : (FloatKind.f64.format.order 4607182418800017408 4607182418800017408 == some .eq) = true := by decide +kernel
      clear hN hx e2
      by_cases hs : s.size = 0
      · obtain rfl := empty_of hs
        by_cases hr : r = 0
        · subst hr
          have hres : mayV 2 4607182418800017408 ByteArray.empty 0 = true := by unfold mayV numV; simp
          rw [hres]
          clear hres
          try clear h0
          try clear h1
          try clear m
          try clear hs
          go_enter Tryd.func81, Tryd.ntmps81
          go_wp2_with fail
          refine (hQ.out _).mono ?_; rintro e w' ⟨rfl, rfl⟩
          go_wp2
          go_ret
          exact ⟨rfl, below_one⟩
        · have hr2 : (r == 0) = false := by rw [beq_eq_false_iff_ne]; exact hr
          have hres : mayV 2 4607182418800017408 ByteArray.empty r = false := by unfold mayV numV; simp [hr]
          rw [hres]
          clear hres
          try clear h0
          try clear h1
          try clear m
          try clear hs
          go_enter Tryd.func81, Tryd.ntmps81
          go_wp2_with fail
          refine (hQ.out _).mono ?_; rintro e w' ⟨rfl, rfl⟩
          go_wp2
          go_ret
          exact ⟨rfl, below_one⟩
      · have he := isEmpty_of hs
        have hn : s.toList ≠ [] := by intro e; rw [e] at he; cases he
        by_cases hr : r = 0
        · subst hr
          have hres : mayV 2 4607182418800017408 s 0 = false := by unfold mayV numV; simp [hs]
          rw [hres]
          clear hres
          try clear h0
          try clear h1
          try clear m
          try clear hs
          go_enter Tryd.func81, Tryd.ntmps81
          go_wp2_with fail
          refine (hQ.out _).mono ?_; rintro e w' ⟨rfl, rfl⟩
          go_wp2
          go_ret
          exact ⟨rfl, below_one⟩
        · have hr2 : (r == 0) = false := by rw [beq_eq_false_iff_ne]; exact hr
          have hres : mayV 2 4607182418800017408 s r = false := by unfold mayV numV; simp [hs, hr]
          rw [hres]
          clear hres
          try clear h0
          try clear h1
          try clear m
          try clear hs
          go_enter Tryd.func81, Tryd.ntmps81
          go_wp2_with fail
          refine (hQ.out _).mono ?_; rintro e w' ⟨rfl, rfl⟩
          go_wp2
          go_ret
          exact ⟨rfl, below_one⟩
    · have f : Fl.feq x 4607182418800017408 = false := by
        rcases hN with ⟨_, h, _⟩ | ⟨_, _, ⟨_, h⟩ | ⟨h, _⟩⟩
        · exact h
        · exact absurd h h1
        · exact h
      rw [f] at e2
      clear hN hx f
      by_cases hs : s.size = 0
      · obtain rfl := empty_of hs
        by_cases hr : r = 0
        · subst hr
          have hres : mayV 2 x ByteArray.empty 0 = false := by unfold mayV numV; simp [h0, h1]
          rw [hres]
          clear hres
          try clear h0
          try clear h1
          try clear m
          try clear hs
          go_enter Tryd.func81, Tryd.ntmps81
          go_wp2_with fail
          refine (hQ.out _).mono ?_; rintro e w' ⟨rfl, rfl⟩
          go_wp2
          go_ret
          exact ⟨rfl, below_one⟩
        · have hr2 : (r == 0) = false := by rw [beq_eq_false_iff_ne]; exact hr
          have hres : mayV 2 x ByteArray.empty r = false := by unfold mayV numV; simp [h0, h1, hr]
          rw [hres]
          clear hres
          try clear h0
          try clear h1
          try clear m
          try clear hs
          go_enter Tryd.func81, Tryd.ntmps81
          go_wp2_with fail
          refine (hQ.out _).mono ?_; rintro e w' ⟨rfl, rfl⟩
          go_wp2
          go_ret
          exact ⟨rfl, below_one⟩
      · have he := isEmpty_of hs
        have hn : s.toList ≠ [] := by intro e; rw [e] at he; cases he
        by_cases hr : r = 0
        · subst hr
          have hres : mayV 2 x s 0 = false := by unfold mayV numV; simp [h0, h1, hs]
          rw [hres]
          clear hres
          try clear h0
          try clear h1
          try clear m
          try clear hs
          go_enter Tryd.func81, Tryd.ntmps81
          go_wp2_with fail
          refine (hQ.out _).mono ?_; rintro e w' ⟨rfl, rfl⟩
          go_wp2
          go_ret
          exact ⟨rfl, below_one⟩
        · have hr2 : (r == 0) = false := by rw [beq_eq_false_iff_ne]; exact hr
          have hres : mayV 2 x s r = false := by unfold mayV numV; simp [h0, h1, hs, hr]
          rw [hres]
          clear hres
          try clear h0
          try clear h1
          try clear m
          try clear hs
          go_enter Tryd.func81, Tryd.ntmps81
          go_wp2_with fail
          refine (hQ.out _).mono ?_; rintro e w' ⟨rfl, rfl⟩
          go_wp2
          go_ret
          exact ⟨rfl, below_one⟩
set_option maxHeartbeats 2000000 in
theorem rMay_3 (x : Nat) (s : ByteArray) (r : Int) (w : World) (hx : x < 18446744073709551616) :
    Calls Tryd.prog 81 #[val 3 x s r] w fun e w' => e = .returned (.bool (mayV 3 x s r)) ∧ Below w.heap.size w w' := by
  have hQ := Lib.hid (fun w' => nought_any x w' hx)
  have hM := Lib.hid (fun w' => refMay_any x w' hx)
  have e2 := Fl.ord_eql hx (y := 4607182418800017408) (by decide)
  have hN := noughts hx
  unfold val
  generalize decide (x = 0) = N at hQ
  cases m : Fl.may x
  · rw [m] at hM
    clear hN hx e2
    by_cases hs : s.size = 0
    · obtain rfl := empty_of hs
      by_cases hr : r = 0
      · subst hr
        have hres : mayV 3 x ByteArray.empty 0 = false := by unfold mayV numV; simp [m]
        rw [hres]
        clear hres
        try clear h0
        try clear h1
        try clear m
        try clear hs
        go_enter Tryd.func81, Tryd.ntmps81
        go_wp2_with fail
        refine (hQ.out _).mono ?_; rintro e w' ⟨rfl, rfl⟩
        go_wp2_with fail
        refine (hM.out _).mono ?_; rintro e w' ⟨rfl, rfl⟩
        go_wp2
        go_ret
        exact ⟨rfl, below_one⟩
      · have hr2 : (r == 0) = false := by rw [beq_eq_false_iff_ne]; exact hr
        have hres : mayV 3 x ByteArray.empty r = false := by unfold mayV numV; simp [m, hr]
        rw [hres]
        clear hres
        try clear h0
        try clear h1
        try clear m
        try clear hs
        go_enter Tryd.func81, Tryd.ntmps81
        go_wp2_with fail
        refine (hQ.out _).mono ?_; rintro e w' ⟨rfl, rfl⟩
        go_wp2_with fail
        refine (hM.out _).mono ?_; rintro e w' ⟨rfl, rfl⟩
        go_wp2
        go_ret
        exact ⟨rfl, below_one⟩
    · have he := isEmpty_of hs
      have hn : s.toList ≠ [] := by intro e; rw [e] at he; cases he
      by_cases hr : r = 0
      · subst hr
        have hres : mayV 3 x s 0 = false := by unfold mayV numV; simp [m, hs]
        rw [hres]
        clear hres
        try clear h0
        try clear h1
        try clear m
        try clear hs
        go_enter Tryd.func81, Tryd.ntmps81
        go_wp2_with fail
        refine (hQ.out _).mono ?_; rintro e w' ⟨rfl, rfl⟩
        go_wp2_with fail
        refine (hM.out _).mono ?_; rintro e w' ⟨rfl, rfl⟩
        go_wp2
        go_ret
        exact ⟨rfl, below_one⟩
      · have hr2 : (r == 0) = false := by rw [beq_eq_false_iff_ne]; exact hr
        have hres : mayV 3 x s r = false := by unfold mayV numV; simp [m, hs, hr]
        rw [hres]
        clear hres
        try clear h0
        try clear h1
        try clear m
        try clear hs
        go_enter Tryd.func81, Tryd.ntmps81
        go_wp2_with fail
        refine (hQ.out _).mono ?_; rintro e w' ⟨rfl, rfl⟩
        go_wp2_with fail
        refine (hM.out _).mono ?_; rintro e w' ⟨rfl, rfl⟩
        go_wp2
        go_ret
        exact ⟨rfl, below_one⟩
  · rw [m] at hM
    clear hN hx e2
    by_cases hs : s.size = 0
    · obtain rfl := empty_of hs
      by_cases hr : r = 0
      · subst hr
        have hres : mayV 3 x ByteArray.empty 0 = true := by unfold mayV numV; simp [m]
        rw [hres]
        clear hres
        try clear h0
        try clear h1
        try clear m
        try clear hs
        go_enter Tryd.func81, Tryd.ntmps81
        go_wp2_with fail
        refine (hQ.out _).mono ?_; rintro e w' ⟨rfl, rfl⟩
        go_wp2_with fail
        refine (hM.out _).mono ?_; rintro e w' ⟨rfl, rfl⟩
        go_wp2
        go_ret
        exact ⟨rfl, below_one⟩
      · have hr2 : (r == 0) = false := by rw [beq_eq_false_iff_ne]; exact hr
        have hres : mayV 3 x ByteArray.empty r = false := by unfold mayV numV; simp [m, hr]
        rw [hres]
        clear hres
        try clear h0
        try clear h1
        try clear m
        try clear hs
        go_enter Tryd.func81, Tryd.ntmps81
        go_wp2_with fail
        refine (hQ.out _).mono ?_; rintro e w' ⟨rfl, rfl⟩
        go_wp2_with fail
        refine (hM.out _).mono ?_; rintro e w' ⟨rfl, rfl⟩
        go_wp2
        go_ret
        exact ⟨rfl, below_one⟩
    · have he := isEmpty_of hs
      have hn : s.toList ≠ [] := by intro e; rw [e] at he; cases he
      by_cases hr : r = 0
      · subst hr
        have hres : mayV 3 x s 0 = false := by unfold mayV numV; simp [m, hs]
        rw [hres]
        clear hres
        try clear h0
        try clear h1
        try clear m
        try clear hs
        go_enter Tryd.func81, Tryd.ntmps81
        go_wp2_with fail
        refine (hQ.out _).mono ?_; rintro e w' ⟨rfl, rfl⟩
        go_wp2_with fail
        refine (hM.out _).mono ?_; rintro e w' ⟨rfl, rfl⟩
        go_wp2
        go_ret
        exact ⟨rfl, below_one⟩
      · have hr2 : (r == 0) = false := by rw [beq_eq_false_iff_ne]; exact hr
        have hres : mayV 3 x s r = false := by unfold mayV numV; simp [m, hs, hr]
        rw [hres]
        clear hres
        try clear h0
        try clear h1
        try clear m
        try clear hs
        go_enter Tryd.func81, Tryd.ntmps81
        go_wp2_with fail
        refine (hQ.out _).mono ?_; rintro e w' ⟨rfl, rfl⟩
        go_wp2_with fail
        refine (hM.out _).mono ?_; rintro e w' ⟨rfl, rfl⟩
        go_wp2
        go_ret
        exact ⟨rfl, below_one⟩
set_option maxHeartbeats 2000000 in
theorem rMay_4 (x : Nat) (s : ByteArray) (r : Int) (w : World) (hx : x < 18446744073709551616) :
    Calls Tryd.prog 81 #[val 4 x s r] w fun e w' => e = .returned (.bool (mayV 4 x s r)) ∧ Below w.heap.size w w' := by
  have hQ := Lib.hid (fun w' => nought_any x w' hx)
  have hM := Lib.hid (fun w' => refMay_any x w' hx)
  have e2 := Fl.ord_eql hx (y := 4607182418800017408) (by decide)
  have hN := noughts hx
  unfold val
  by_cases h0 : x = 0
  · rw [decide_eq_true h0] at hQ
    clear hN hx e2
    by_cases hs : s.size = 0
    · obtain rfl := empty_of hs
      by_cases hr : r = 0
      · subst hr
        have hres : mayV 4 x ByteArray.empty 0 = true := by unfold mayV numV; simp [h0]
        rw [hres]
        clear hres
        try clear h0
        try clear h1
        try clear m
        try clear hs
        go_enter Tryd.func81, Tryd.ntmps81
        go_wp2_with fail
        refine (hQ.out _).mono ?_; rintro e w' ⟨rfl, rfl⟩
        go_wp2
        go_ret
        exact ⟨rfl, below_one⟩
      · have hr2 : (r == 0) = false := by rw [beq_eq_false_iff_ne]; exact hr
        have hres : mayV 4 x ByteArray.empty r = false := by unfold mayV numV; simp [h0, hr]
        rw [hres]
        clear hres
        try clear h0
        try clear h1
        try clear m
        try clear hs
        go_enter Tryd.func81, Tryd.ntmps81
        go_wp2_with fail
        refine (hQ.out _).mono ?_; rintro e w' ⟨rfl, rfl⟩
        go_wp2
        go_ret
        exact ⟨rfl, below_one⟩
    · have he := isEmpty_of hs
      have hn : s.toList ≠ [] := by intro e; rw [e] at he; cases he
      by_cases h3 : s.size ≤ 4096
      · have h4 : (s.size : Int) ≤ 4096 := by omega
        by_cases hr : r = 0
        · subst hr
          have hres : mayV 4 x s 0 = true := by unfold mayV numV; simp [h0, hs, h3]
          rw [hres]
          clear hres
          try clear h0
          try clear h1
          try clear m
          try clear hs
          go_enter Tryd.func81, Tryd.ntmps81
          go_wp2_with fail
          refine (hQ.out _).mono ?_; rintro e w' ⟨rfl, rfl⟩
          go_wp2
          go_ret
          exact ⟨rfl, below_one⟩
        · have hr2 : (r == 0) = false := by rw [beq_eq_false_iff_ne]; exact hr
          have hres : mayV 4 x s r = false := by unfold mayV numV; simp [h0, hs, h3, hr]
          rw [hres]
          clear hres
          try clear h0
          try clear h1
          try clear m
          try clear hs
          go_enter Tryd.func81, Tryd.ntmps81
          go_wp2_with fail
          refine (hQ.out _).mono ?_; rintro e w' ⟨rfl, rfl⟩
          go_wp2
          go_ret
          exact ⟨rfl, below_one⟩
      · have h4 : ¬ (s.size : Int) ≤ 4096 := by omega
        by_cases hr : r = 0
        · subst hr
          have hres : mayV 4 x s 0 = false := by unfold mayV numV; simp [h0, hs, h3]
          rw [hres]
          clear hres
          try clear h0
          try clear h1
          try clear m
          try clear hs
          go_enter Tryd.func81, Tryd.ntmps81
          go_wp2_with fail
          refine (hQ.out _).mono ?_; rintro e w' ⟨rfl, rfl⟩
          go_wp2
          go_ret
          exact ⟨rfl, below_one⟩
        · have hr2 : (r == 0) = false := by rw [beq_eq_false_iff_ne]; exact hr
          have hres : mayV 4 x s r = false := by unfold mayV numV; simp [h0, hs, h3, hr]
          rw [hres]
          clear hres
          try clear h0
          try clear h1
          try clear m
          try clear hs
          go_enter Tryd.func81, Tryd.ntmps81
          go_wp2_with fail
          refine (hQ.out _).mono ?_; rintro e w' ⟨rfl, rfl⟩
          go_wp2
          go_ret
          exact ⟨rfl, below_one⟩
  · rw [decide_eq_false h0] at hQ
    clear hN hx e2
    by_cases hs : s.size = 0
    · obtain rfl := empty_of hs
      by_cases hr : r = 0
      · subst hr
        have hres : mayV 4 x ByteArray.empty 0 = false := by unfold mayV numV; simp [h0]
        rw [hres]
        clear hres
        try clear h0
        try clear h1
        try clear m
        try clear hs
        go_enter Tryd.func81, Tryd.ntmps81
        go_wp2_with fail
        refine (hQ.out _).mono ?_; rintro e w' ⟨rfl, rfl⟩
        go_wp2
        go_ret
        exact ⟨rfl, below_one⟩
      · have hr2 : (r == 0) = false := by rw [beq_eq_false_iff_ne]; exact hr
        have hres : mayV 4 x ByteArray.empty r = false := by unfold mayV numV; simp [h0, hr]
        rw [hres]
        clear hres
        try clear h0
        try clear h1
        try clear m
        try clear hs
        go_enter Tryd.func81, Tryd.ntmps81
        go_wp2_with fail
        refine (hQ.out _).mono ?_; rintro e w' ⟨rfl, rfl⟩
        go_wp2
        go_ret
        exact ⟨rfl, below_one⟩
    · have he := isEmpty_of hs
      have hn : s.toList ≠ [] := by intro e; rw [e] at he; cases he
      by_cases h3 : s.size ≤ 4096
      · have h4 : (s.size : Int) ≤ 4096 := by omega
        by_cases hr : r = 0
        · subst hr
          have hres : mayV 4 x s 0 = false := by unfold mayV numV; simp [h0, hs, h3]
          rw [hres]
          clear hres
          try clear h0
          try clear h1
          try clear m
          try clear hs
          go_enter Tryd.func81, Tryd.ntmps81
          go_wp2_with fail
          refine (hQ.out _).mono ?_; rintro e w' ⟨rfl, rfl⟩
          go_wp2
          go_ret
          exact ⟨rfl, below_one⟩
        · have hr2 : (r == 0) = false := by rw [beq_eq_false_iff_ne]; exact hr
          have hres : mayV 4 x s r = false := by unfold mayV numV; simp [h0, hs, h3, hr]
          rw [hres]
          clear hres
          try clear h0
          try clear h1
          try clear m
          try clear hs
          go_enter Tryd.func81, Tryd.ntmps81
          go_wp2_with fail
          refine (hQ.out _).mono ?_; rintro e w' ⟨rfl, rfl⟩
          go_wp2
          go_ret
          exact ⟨rfl, below_one⟩
      · have h4 : ¬ (s.size : Int) ≤ 4096 := by omega
        by_cases hr : r = 0
        · subst hr
          have hres : mayV 4 x s 0 = false := by unfold mayV numV; simp [h0, hs, h3]
          rw [hres]
          clear hres
          try clear h0
          try clear h1
          try clear m
          try clear hs
          go_enter Tryd.func81, Tryd.ntmps81
          go_wp2_with fail
          refine (hQ.out _).mono ?_; rintro e w' ⟨rfl, rfl⟩
          go_wp2
          go_ret
          exact ⟨rfl, below_one⟩
        · have hr2 : (r == 0) = false := by rw [beq_eq_false_iff_ne]; exact hr
          have hres : mayV 4 x s r = false := by unfold mayV numV; simp [h0, hs, h3, hr]
          rw [hres]
          clear hres
          try clear h0
          try clear h1
          try clear m
          try clear hs
          go_enter Tryd.func81, Tryd.ntmps81
          go_wp2_with fail
          refine (hQ.out _).mono ?_; rintro e w' ⟨rfl, rfl⟩
          go_wp2
          go_ret
          exact ⟨rfl, below_one⟩
set_option maxHeartbeats 2000000 in
theorem rMay_5 (x : Nat) (s : ByteArray) (r : Int) (w : World) (hx : x < 18446744073709551616) :
    Calls Tryd.prog 81 #[val 5 x s r] w fun e w' => e = .returned (.bool (mayV 5 x s r)) ∧ Below w.heap.size w w' := by
  have hQ := Lib.hid (fun w' => nought_any x w' hx)
  have hM := Lib.hid (fun w' => refMay_any x w' hx)
  have e2 := Fl.ord_eql hx (y := 4607182418800017408) (by decide)
  have hN := noughts hx
  unfold val
  by_cases h0 : x = 0
  · rw [decide_eq_true h0] at hQ
    clear hN hx e2
    by_cases hs : s.size = 0
    · obtain rfl := empty_of hs
      by_cases hr : r = 0
      · subst hr
        have hres : mayV 5 x ByteArray.empty 0 = true := by unfold mayV numV; simp [h0]
        rw [hres]
        clear hres
        try clear h0
        try clear h1
        try clear m
        try clear hs
        go_enter Tryd.func81, Tryd.ntmps81
        go_wp2_with fail
        refine (hQ.out _).mono ?_; rintro e w' ⟨rfl, rfl⟩
        go_wp2
        go_ret
        exact ⟨rfl, below_one⟩
      · have hr2 : (r == 0) = false := by rw [beq_eq_false_iff_ne]; exact hr
        by_cases hp : 0 < r
        · have hres : mayV 5 x ByteArray.empty r = true := by unfold mayV numV; simp [h0, hr, hp]
          rw [hres]
          clear hres
          try clear h0
          try clear h1
          try clear m
          try clear hs
          go_enter Tryd.func81, Tryd.ntmps81
          go_wp2_with fail
          refine (hQ.out _).mono ?_; rintro e w' ⟨rfl, rfl⟩
          go_wp2
          go_ret
          exact ⟨rfl, below_one⟩
        · have hp2 : decide (0 < r) = false := decide_eq_false hp
          have hres : mayV 5 x ByteArray.empty r = false := by unfold mayV numV; simp [h0, hr, hp]
          rw [hres]
          clear hres
          try clear h0
          try clear h1
          try clear m
          try clear hs
          go_enter Tryd.func81, Tryd.ntmps81
          go_wp2_with fail
          refine (hQ.out _).mono ?_; rintro e w' ⟨rfl, rfl⟩
          go_wp2
          go_ret
          exact ⟨rfl, below_one⟩
    · have he := isEmpty_of hs
      have hn : s.toList ≠ [] := by intro e; rw [e] at he; cases he
      by_cases hr : r = 0
      · subst hr
        have hres : mayV 5 x s 0 = false := by unfold mayV numV; simp [h0, hs]
        rw [hres]
        clear hres
        try clear h0
        try clear h1
        try clear m
        try clear hs
        go_enter Tryd.func81, Tryd.ntmps81
        go_wp2_with fail
        refine (hQ.out _).mono ?_; rintro e w' ⟨rfl, rfl⟩
        go_wp2
        go_ret
        exact ⟨rfl, below_one⟩
      · have hr2 : (r == 0) = false := by rw [beq_eq_false_iff_ne]; exact hr
        by_cases hp : 0 < r
        · have hres : mayV 5 x s r = false := by unfold mayV numV; simp [h0, hs, hr, hp]
          rw [hres]
          clear hres
          try clear h0
          try clear h1
          try clear m
          try clear hs
          go_enter Tryd.func81, Tryd.ntmps81
          go_wp2_with fail
          refine (hQ.out _).mono ?_; rintro e w' ⟨rfl, rfl⟩
          go_wp2
          go_ret
          exact ⟨rfl, below_one⟩
        · have hp2 : decide (0 < r) = false := decide_eq_false hp
          have hres : mayV 5 x s r = false := by unfold mayV numV; simp [h0, hs, hr, hp]
          rw [hres]
          clear hres
          try clear h0
          try clear h1
          try clear m
          try clear hs
          go_enter Tryd.func81, Tryd.ntmps81
          go_wp2_with fail
          refine (hQ.out _).mono ?_; rintro e w' ⟨rfl, rfl⟩
          go_wp2
          go_ret
          exact ⟨rfl, below_one⟩
  · rw [decide_eq_false h0] at hQ
    clear hN hx e2
    by_cases hs : s.size = 0
    · obtain rfl := empty_of hs
      by_cases hr : r = 0
      · subst hr
        have hres : mayV 5 x ByteArray.empty 0 = false := by unfold mayV numV; simp [h0]
        rw [hres]
        clear hres
        try clear h0
        try clear h1
        try clear m
        try clear hs
        go_enter Tryd.func81, Tryd.ntmps81
        go_wp2_with fail
        refine (hQ.out _).mono ?_; rintro e w' ⟨rfl, rfl⟩
        go_wp2
        go_ret
        exact ⟨rfl, below_one⟩
      · have hr2 : (r == 0) = false := by rw [beq_eq_false_iff_ne]; exact hr
        by_cases hp : 0 < r
        · have hres : mayV 5 x ByteArray.empty r = false := by unfold mayV numV; simp [h0, hr, hp]
          rw [hres]
          clear hres
          try clear h0
          try clear h1
          try clear m
          try clear hs
          go_enter Tryd.func81, Tryd.ntmps81
          go_wp2_with fail
          refine (hQ.out _).mono ?_; rintro e w' ⟨rfl, rfl⟩
          go_wp2
          go_ret
          exact ⟨rfl, below_one⟩
        · have hp2 : decide (0 < r) = false := decide_eq_false hp
          have hres : mayV 5 x ByteArray.empty r = false := by unfold mayV numV; simp [h0, hr, hp]
          rw [hres]
          clear hres
          try clear h0
          try clear h1
          try clear m
          try clear hs
          go_enter Tryd.func81, Tryd.ntmps81
          go_wp2_with fail
          refine (hQ.out _).mono ?_; rintro e w' ⟨rfl, rfl⟩
          go_wp2
          go_ret
          exact ⟨rfl, below_one⟩
    · have he := isEmpty_of hs
      have hn : s.toList ≠ [] := by intro e; rw [e] at he; cases he
      by_cases hr : r = 0
      · subst hr
        have hres : mayV 5 x s 0 = false := by unfold mayV numV; simp [h0, hs]
        rw [hres]
        clear hres
        try clear h0
        try clear h1
        try clear m
        try clear hs
        go_enter Tryd.func81, Tryd.ntmps81
        go_wp2_with fail
        refine (hQ.out _).mono ?_; rintro e w' ⟨rfl, rfl⟩
        go_wp2
        go_ret
        exact ⟨rfl, below_one⟩
      · have hr2 : (r == 0) = false := by rw [beq_eq_false_iff_ne]; exact hr
        by_cases hp : 0 < r
        · have hres : mayV 5 x s r = false := by unfold mayV numV; simp [h0, hs, hr, hp]
          rw [hres]
          clear hres
          try clear h0
          try clear h1
          try clear m
          try clear hs
          go_enter Tryd.func81, Tryd.ntmps81
          go_wp2_with fail
          refine (hQ.out _).mono ?_; rintro e w' ⟨rfl, rfl⟩
          go_wp2
          go_ret
          exact ⟨rfl, below_one⟩
        · have hp2 : decide (0 < r) = false := decide_eq_false hp
          have hres : mayV 5 x s r = false := by unfold mayV numV; simp [h0, hs, hr, hp]
          rw [hres]
          clear hres
          try clear h0
          try clear h1
          try clear m
          try clear hs
          go_enter Tryd.func81, Tryd.ntmps81
          go_wp2_with fail
          refine (hQ.out _).mono ?_; rintro e w' ⟨rfl, rfl⟩
          go_wp2
          go_ret
          exact ⟨rfl, below_one⟩
set_option maxHeartbeats 2000000 in
theorem rMay_6 (x : Nat) (s : ByteArray) (r : Int) (w : World) (hx : x < 18446744073709551616) :
    Calls Tryd.prog 81 #[val 6 x s r] w fun e w' => e = .returned (.bool (mayV 6 x s r)) ∧ Below w.heap.size w w' := by
  have hQ := Lib.hid (fun w' => nought_any x w' hx)
  have hM := Lib.hid (fun w' => refMay_any x w' hx)
  have e2 := Fl.ord_eql hx (y := 4607182418800017408) (by decide)
  have hN := noughts hx
  unfold val
  by_cases h0 : x = 0
  · rw [decide_eq_true h0] at hQ
    clear hN hx e2
    by_cases hs : s.size = 0
    · obtain rfl := empty_of hs
      by_cases hr : r = 0
      · subst hr
        have hres : mayV 6 x ByteArray.empty 0 = true := by unfold mayV numV; simp [h0]
        rw [hres]
        clear hres
        try clear h0
        try clear h1
        try clear m
        try clear hs
        go_enter Tryd.func81, Tryd.ntmps81
        go_wp2_with fail
        refine (hQ.out _).mono ?_; rintro e w' ⟨rfl, rfl⟩
        go_wp2
        go_ret
        exact ⟨rfl, below_one⟩
      · have hr2 : (r == 0) = false := by rw [beq_eq_false_iff_ne]; exact hr
        by_cases hp : 0 < r
        · have hres : mayV 6 x ByteArray.empty r = true := by unfold mayV numV; simp [h0, hr, hp]
          rw [hres]
          clear hres
          try clear h0
          try clear h1
          try clear m
          try clear hs
          go_enter Tryd.func81, Tryd.ntmps81
          go_wp2_with fail
          refine (hQ.out _).mono ?_; rintro e w' ⟨rfl, rfl⟩
          go_wp2
          go_ret
          exact ⟨rfl, below_one⟩
        · have hp2 : decide (0 < r) = false := decide_eq_false hp
          have hres : mayV 6 x ByteArray.empty r = false := by unfold mayV numV; simp [h0, hr, hp]
          rw [hres]
          clear hres
          try clear h0
          try clear h1
          try clear m
          try clear hs
          go_enter Tryd.func81, Tryd.ntmps81
          go_wp2_with fail
          refine (hQ.out _).mono ?_; rintro e w' ⟨rfl, rfl⟩
          go_wp2
          go_ret
          exact ⟨rfl, below_one⟩
    · have he := isEmpty_of hs
      have hn : s.toList ≠ [] := by intro e; rw [e] at he; cases he
      by_cases hr : r = 0
      · subst hr
        have hres : mayV 6 x s 0 = false := by unfold mayV numV; simp [h0, hs]
        rw [hres]
        clear hres
        try clear h0
        try clear h1
        try clear m
        try clear hs
        go_enter Tryd.func81, Tryd.ntmps81
        go_wp2_with fail
        refine (hQ.out _).mono ?_; rintro e w' ⟨rfl, rfl⟩
        go_wp2
        go_ret
        exact ⟨rfl, below_one⟩
      · have hr2 : (r == 0) = false := by rw [beq_eq_false_iff_ne]; exact hr
        by_cases hp : 0 < r
        · have hres : mayV 6 x s r = false := by unfold mayV numV; simp [h0, hs, hr, hp]
          rw [hres]
          clear hres
          try clear h0
          try clear h1
          try clear m
          try clear hs
          go_enter Tryd.func81, Tryd.ntmps81
          go_wp2_with fail
          refine (hQ.out _).mono ?_; rintro e w' ⟨rfl, rfl⟩
          go_wp2
          go_ret
          exact ⟨rfl, below_one⟩
        · have hp2 : decide (0 < r) = false := decide_eq_false hp
          have hres : mayV 6 x s r = false := by unfold mayV numV; simp [h0, hs, hr, hp]
          rw [hres]
          clear hres
          try clear h0
          try clear h1
          try clear m
          try clear hs
          go_enter Tryd.func81, Tryd.ntmps81
          go_wp2_with fail
          refine (hQ.out _).mono ?_; rintro e w' ⟨rfl, rfl⟩
          go_wp2
          go_ret
          exact ⟨rfl, below_one⟩
  · rw [decide_eq_false h0] at hQ
    clear hN hx e2
    by_cases hs : s.size = 0
    · obtain rfl := empty_of hs
      by_cases hr : r = 0
      · subst hr
        have hres : mayV 6 x ByteArray.empty 0 = false := by unfold mayV numV; simp [h0]
        rw [hres]
        clear hres
        try clear h0
        try clear h1
        try clear m
        try clear hs
        go_enter Tryd.func81, Tryd.ntmps81
        go_wp2_with fail
        refine (hQ.out _).mono ?_; rintro e w' ⟨rfl, rfl⟩
        go_wp2
        go_ret
        exact ⟨rfl, below_one⟩
      · have hr2 : (r == 0) = false := by rw [beq_eq_false_iff_ne]; exact hr
        by_cases hp : 0 < r
        · have hres : mayV 6 x ByteArray.empty r = false := by unfold mayV numV; simp [h0, hr, hp]
          rw [hres]
          clear hres
          try clear h0
          try clear h1
          try clear m
          try clear hs
          go_enter Tryd.func81, Tryd.ntmps81
          go_wp2_with fail
          refine (hQ.out _).mono ?_; rintro e w' ⟨rfl, rfl⟩
          go_wp2
          go_ret
          exact ⟨rfl, below_one⟩
        · have hp2 : decide (0 < r) = false := decide_eq_false hp
          have hres : mayV 6 x ByteArray.empty r = false := by unfold mayV numV; simp [h0, hr, hp]
          rw [hres]
          clear hres
          try clear h0
          try clear h1
          try clear m
          try clear hs
          go_enter Tryd.func81, Tryd.ntmps81
          go_wp2_with fail
          refine (hQ.out _).mono ?_; rintro e w' ⟨rfl, rfl⟩
          go_wp2
          go_ret
          exact ⟨rfl, below_one⟩
    · have he := isEmpty_of hs
      have hn : s.toList ≠ [] := by intro e; rw [e] at he; cases he
      by_cases hr : r = 0
      · subst hr
        have hres : mayV 6 x s 0 = false := by unfold mayV numV; simp [h0, hs]
        rw [hres]
        clear hres
        try clear h0
        try clear h1
        try clear m
        try clear hs
        go_enter Tryd.func81, Tryd.ntmps81
        go_wp2_with fail
        refine (hQ.out _).mono ?_; rintro e w' ⟨rfl, rfl⟩
        go_wp2
        go_ret
        exact ⟨rfl, below_one⟩
      · have hr2 : (r == 0) = false := by rw [beq_eq_false_iff_ne]; exact hr
        by_cases hp : 0 < r
        · have hres : mayV 6 x s r = false := by unfold mayV numV; simp [h0, hs, hr, hp]
          rw [hres]
          clear hres
          try clear h0
          try clear h1
          try clear m
          try clear hs
          go_enter Tryd.func81, Tryd.ntmps81
          go_wp2_with fail
          refine (hQ.out _).mono ?_; rintro e w' ⟨rfl, rfl⟩
          go_wp2
          go_ret
          exact ⟨rfl, below_one⟩
        · have hp2 : decide (0 < r) = false := decide_eq_false hp
          have hres : mayV 6 x s r = false := by unfold mayV numV; simp [h0, hs, hr, hp]
          rw [hres]
          clear hres
          try clear h0
          try clear h1
          try clear m
          try clear hs
          go_enter Tryd.func81, Tryd.ntmps81
          go_wp2_with fail
          refine (hQ.out _).mono ?_; rintro e w' ⟨rfl, rfl⟩
          go_wp2
          go_ret
          exact ⟨rfl, below_one⟩
set_option maxHeartbeats 2000000 in
theorem rMay_7 (x : Nat) (s : ByteArray) (r : Int) (w : World) (hx : x < 18446744073709551616) :
    Calls Tryd.prog 81 #[val 7 x s r] w fun e w' => e = .returned (.bool (mayV 7 x s r)) ∧ Below w.heap.size w w' := by
  have hQ := Lib.hid (fun w' => nought_any x w' hx)
  have hM := Lib.hid (fun w' => refMay_any x w' hx)
  have e2 := Fl.ord_eql hx (y := 4607182418800017408) (by decide)
  have hN := noughts hx
  unfold val
  by_cases h0 : x = 0
  · rw [decide_eq_true h0] at hQ
    clear hN hx e2
    by_cases hs : s.size = 0
    · obtain rfl := empty_of hs
      by_cases hr : r = 0
      · subst hr
        have hres : mayV 7 x ByteArray.empty 0 = true := by unfold mayV numV; simp [h0]
        rw [hres]
        clear hres
        try clear h0
        try clear h1
        try clear m
        try clear hs
        go_enter Tryd.func81, Tryd.ntmps81
        go_wp2_with fail
        refine (hQ.out _).mono ?_; rintro e w' ⟨rfl, rfl⟩
        go_wp2
        go_ret
        exact ⟨rfl, below_one⟩
      · have hr2 : (r == 0) = false := by rw [beq_eq_false_iff_ne]; exact hr
        by_cases hp : 0 < r
        · have hres : mayV 7 x ByteArray.empty r = true := by unfold mayV numV; simp [h0, hr, hp]
          rw [hres]
          clear hres
          try clear h0
          try clear h1
          try clear m
          try clear hs
          go_enter Tryd.func81, Tryd.ntmps81
          go_wp2_with fail
          refine (hQ.out _).mono ?_; rintro e w' ⟨rfl, rfl⟩
          go_wp2
          go_ret
          exact ⟨rfl, below_one⟩
        · have hp2 : decide (0 < r) = false := decide_eq_false hp
          have hres : mayV 7 x ByteArray.empty r = false := by unfold mayV numV; simp [h0, hr, hp]
          rw [hres]
          clear hres
          try clear h0
          try clear h1
          try clear m
          try clear hs
          go_enter Tryd.func81, Tryd.ntmps81
          go_wp2_with fail
          refine (hQ.out _).mono ?_; rintro e w' ⟨rfl, rfl⟩
          go_wp2
          go_ret
          exact ⟨rfl, below_one⟩
    · have he := isEmpty_of hs
      have hn : s.toList ≠ [] := by intro e; rw [e] at he; cases he
      by_cases hr : r = 0
      · subst hr
        have hres : mayV 7 x s 0 = false := by unfold mayV numV; simp [h0, hs]
        rw [hres]
        clear hres
        try clear h0
        try clear h1
        try clear m
        try clear hs
        go_enter Tryd.func81, Tryd.ntmps81
        go_wp2_with fail
        refine (hQ.out _).mono ?_; rintro e w' ⟨rfl, rfl⟩
        go_wp2
        go_ret
        exact ⟨rfl, below_one⟩
      · have hr2 : (r == 0) = false := by rw [beq_eq_false_iff_ne]; exact hr
        by_cases hp : 0 < r
        · have hres : mayV 7 x s r = false := by unfold mayV numV; simp [h0, hs, hr, hp]
          rw [hres]
          clear hres
          try clear h0
          try clear h1
          try clear m
          try clear hs
          go_enter Tryd.func81, Tryd.ntmps81
          go_wp2_with fail
          refine (hQ.out _).mono ?_; rintro e w' ⟨rfl, rfl⟩
          go_wp2
          go_ret
          exact ⟨rfl, below_one⟩
        · have hp2 : decide (0 < r) = false := decide_eq_false hp
          have hres : mayV 7 x s r = false := by unfold mayV numV; simp [h0, hs, hr, hp]
          rw [hres]
          clear hres
          try clear h0
          try clear h1
          try clear m
          try clear hs
          go_enter Tryd.func81, Tryd.ntmps81
          go_wp2_with fail
          refine (hQ.out _).mono ?_; rintro e w' ⟨rfl, rfl⟩
          go_wp2
          go_ret
          exact ⟨rfl, below_one⟩
  · rw [decide_eq_false h0] at hQ
    clear hN hx e2
    by_cases hs : s.size = 0
    · obtain rfl := empty_of hs
      by_cases hr : r = 0
      · subst hr
        have hres : mayV 7 x ByteArray.empty 0 = false := by unfold mayV numV; simp [h0]
        rw [hres]
        clear hres
        try clear h0
        try clear h1
        try clear m
        try clear hs
        go_enter Tryd.func81, Tryd.ntmps81
        go_wp2_with fail
        refine (hQ.out _).mono ?_; rintro e w' ⟨rfl, rfl⟩
        go_wp2
        go_ret
        exact ⟨rfl, below_one⟩
      · have hr2 : (r == 0) = false := by rw [beq_eq_false_iff_ne]; exact hr
        by_cases hp : 0 < r
        · have hres : mayV 7 x ByteArray.empty r = false := by unfold mayV numV; simp [h0, hr, hp]
          rw [hres]
          clear hres
          try clear h0
          try clear h1
          try clear m
          try clear hs
          go_enter Tryd.func81, Tryd.ntmps81
          go_wp2_with fail
          refine (hQ.out _).mono ?_; rintro e w' ⟨rfl, rfl⟩
          go_wp2
          go_ret
          exact ⟨rfl, below_one⟩
        · have hp2 : decide (0 < r) = false := decide_eq_false hp
          have hres : mayV 7 x ByteArray.empty r = false := by unfold mayV numV; simp [h0, hr, hp]
          rw [hres]
          clear hres
          try clear h0
          try clear h1
          try clear m
          try clear hs
          go_enter Tryd.func81, Tryd.ntmps81
          go_wp2_with fail
          refine (hQ.out _).mono ?_; rintro e w' ⟨rfl, rfl⟩
          go_wp2
          go_ret
          exact ⟨rfl, below_one⟩
    · have he := isEmpty_of hs
      have hn : s.toList ≠ [] := by intro e; rw [e] at he; cases he
      by_cases hr : r = 0
      · subst hr
        have hres : mayV 7 x s 0 = false := by unfold mayV numV; simp [h0, hs]
        rw [hres]
        clear hres
        try clear h0
        try clear h1
        try clear m
        try clear hs
        go_enter Tryd.func81, Tryd.ntmps81
        go_wp2_with fail
        refine (hQ.out _).mono ?_; rintro e w' ⟨rfl, rfl⟩
        go_wp2
        go_ret
        exact ⟨rfl, below_one⟩
      · have hr2 : (r == 0) = false := by rw [beq_eq_false_iff_ne]; exact hr
        by_cases hp : 0 < r
        · have hres : mayV 7 x s r = false := by unfold mayV numV; simp [h0, hs, hr, hp]
          rw [hres]
          clear hres
          try clear h0
          try clear h1
          try clear m
          try clear hs
          go_enter Tryd.func81, Tryd.ntmps81
          go_wp2_with fail
          refine (hQ.out _).mono ?_; rintro e w' ⟨rfl, rfl⟩
          go_wp2
          go_ret
          exact ⟨rfl, below_one⟩
        · have hp2 : decide (0 < r) = false := decide_eq_false hp
          have hres : mayV 7 x s r = false := by unfold mayV numV; simp [h0, hs, hr, hp]
          rw [hres]
          clear hres
          try clear h0
          try clear h1
          try clear m
          try clear hs
          go_enter Tryd.func81, Tryd.ntmps81
          go_wp2_with fail
          refine (hQ.out _).mono ?_; rintro e w' ⟨rfl, rfl⟩
          go_wp2
          go_ret
          exact ⟨rfl, below_one⟩
set_option maxHeartbeats 2000000 in
theorem rMay_8 (x : Nat) (s : ByteArray) (r : Int) (w : World) (hx : x < 18446744073709551616) :
    Calls Tryd.prog 81 #[val 8 x s r] w fun e w' => e = .returned (.bool (mayV 8 x s r)) ∧ Below w.heap.size w w' := by
  have hQ := Lib.hid (fun w' => nought_any x w' hx)
  have hM := Lib.hid (fun w' => refMay_any x w' hx)
  have e2 := Fl.ord_eql hx (y := 4607182418800017408) (by decide)
  have hN := noughts hx
  unfold val
  by_cases h0 : x = 0
  · rw [decide_eq_true h0] at hQ
    clear hN hx e2
    by_cases hs : s.size = 0
    · obtain rfl := empty_of hs
      by_cases hr : r = 0
      · subst hr
        have hres : mayV 8 x ByteArray.empty 0 = true := by unfold mayV numV; simp [h0]
        rw [hres]
        clear hres
        try clear h0
        try clear h1
        try clear m
        try clear hs
        go_enter Tryd.func81, Tryd.ntmps81
        go_wp2_with fail
        refine (hQ.out _).mono ?_; rintro e w' ⟨rfl, rfl⟩
        go_wp2
        go_ret
        exact ⟨rfl, below_one⟩
      · have hr2 : (r == 0) = false := by rw [beq_eq_false_iff_ne]; exact hr
        by_cases hp : 0 < r
        · have hres : mayV 8 x ByteArray.empty r = true := by unfold mayV numV; simp [h0, hr, hp]
          rw [hres]
          clear hres
          try clear h0
          try clear h1
          try clear m
          try clear hs
          go_enter Tryd.func81, Tryd.ntmps81
          go_wp2_with fail
          refine (hQ.out _).mono ?_; rintro e w' ⟨rfl, rfl⟩
          go_wp2
          go_ret
          exact ⟨rfl, below_one⟩
        · have hp2 : decide (0 < r) = false := decide_eq_false hp
          have hres : mayV 8 x ByteArray.empty r = false := by unfold mayV numV; simp [h0, hr, hp]
          rw [hres]
          clear hres
          try clear h0
          try clear h1
          try clear m
          try clear hs
          go_enter Tryd.func81, Tryd.ntmps81
          go_wp2_with fail
          refine (hQ.out _).mono ?_; rintro e w' ⟨rfl, rfl⟩
          go_wp2
          go_ret
          exact ⟨rfl, below_one⟩
    · have he := isEmpty_of hs
      have hn : s.toList ≠ [] := by intro e; rw [e] at he; cases he
      by_cases hr : r = 0
      · subst hr
        have hres : mayV 8 x s 0 = false := by unfold mayV numV; simp [h0, hs]
        rw [hres]
        clear hres
        try clear h0
        try clear h1
        try clear m
        try clear hs
        go_enter Tryd.func81, Tryd.ntmps81
        go_wp2_with fail
        refine (hQ.out _).mono ?_; rintro e w' ⟨rfl, rfl⟩
        go_wp2
        go_ret
        exact ⟨rfl, below_one⟩
      · have hr2 : (r == 0) = false := by rw [beq_eq_false_iff_ne]; exact hr
        by_cases hp : 0 < r
        · have hres : mayV 8 x s r = false := by unfold mayV numV; simp [h0, hs, hr, hp]
          rw [hres]
          clear hres
          try clear h0
          try clear h1
          try clear m
          try clear hs
          go_enter Tryd.func81, Tryd.ntmps81
          go_wp2_with fail
          refine (hQ.out _).mono ?_; rintro e w' ⟨rfl, rfl⟩
          go_wp2
          go_ret
          exact ⟨rfl, below_one⟩
        · have hp2 : decide (0 < r) = false := decide_eq_false hp
          have hres : mayV 8 x s r = false := by unfold mayV numV; simp [h0, hs, hr, hp]
          rw [hres]
          clear hres
          try clear h0
          try clear h1
          try clear m
          try clear hs
          go_enter Tryd.func81, Tryd.ntmps81
          go_wp2_with fail
          refine (hQ.out _).mono ?_; rintro e w' ⟨rfl, rfl⟩
          go_wp2
          go_ret
          exact ⟨rfl, below_one⟩
  · rw [decide_eq_false h0] at hQ
    clear hN hx e2
    by_cases hs : s.size = 0
    · obtain rfl := empty_of hs
      by_cases hr : r = 0
      · subst hr
        have hres : mayV 8 x ByteArray.empty 0 = false := by unfold mayV numV; simp [h0]
        rw [hres]
        clear hres
        try clear h0
        try clear h1
        try clear m
        try clear hs
        go_enter Tryd.func81, Tryd.ntmps81
        go_wp2_with fail
        refine (hQ.out _).mono ?_; rintro e w' ⟨rfl, rfl⟩
        go_wp2
        go_ret
        exact ⟨rfl, below_one⟩
      · have hr2 : (r == 0) = false := by rw [beq_eq_false_iff_ne]; exact hr
        by_cases hp : 0 < r
        · have hres : mayV 8 x ByteArray.empty r = false := by unfold mayV numV; simp [h0, hr, hp]
          rw [hres]
          clear hres
          try clear h0
          try clear h1
          try clear m
          try clear hs
          go_enter Tryd.func81, Tryd.ntmps81
          go_wp2_with fail
          refine (hQ.out _).mono ?_; rintro e w' ⟨rfl, rfl⟩
          go_wp2
          go_ret
          exact ⟨rfl, below_one⟩
        · have hp2 : decide (0 < r) = false := decide_eq_false hp
          have hres : mayV 8 x ByteArray.empty r = false := by unfold mayV numV; simp [h0, hr, hp]
          rw [hres]
          clear hres
          try clear h0
          try clear h1
          try clear m
          try clear hs
          go_enter Tryd.func81, Tryd.ntmps81
          go_wp2_with fail
          refine (hQ.out _).mono ?_; rintro e w' ⟨rfl, rfl⟩
          go_wp2
          go_ret
          exact ⟨rfl, below_one⟩
    · have he := isEmpty_of hs
      have hn : s.toList ≠ [] := by intro e; rw [e] at he; cases he
      by_cases hr : r = 0
      · subst hr
        have hres : mayV 8 x s 0 = false := by unfold mayV numV; simp [h0, hs]
        rw [hres]
        clear hres
        try clear h0
        try clear h1
        try clear m
        try clear hs
        go_enter Tryd.func81, Tryd.ntmps81
        go_wp2_with fail
        refine (hQ.out _).mono ?_; rintro e w' ⟨rfl, rfl⟩
        go_wp2
        go_ret
        exact ⟨rfl, below_one⟩
      · have hr2 : (r == 0) = false := by rw [beq_eq_false_iff_ne]; exact hr
        by_cases hp : 0 < r
        · have hres : mayV 8 x s r = false := by unfold mayV numV; simp [h0, hs, hr, hp]
          rw [hres]
          clear hres
          try clear h0
          try clear h1
          try clear m
          try clear hs
          go_enter Tryd.func81, Tryd.ntmps81
          go_wp2_with fail
          refine (hQ.out _).mono ?_; rintro e w' ⟨rfl, rfl⟩
          go_wp2
          go_ret
          exact ⟨rfl, below_one⟩
        · have hp2 : decide (0 < r) = false := decide_eq_false hp
          have hres : mayV 8 x s r = false := by unfold mayV numV; simp [h0, hs, hr, hp]
          rw [hres]
          clear hres
          try clear h0
          try clear h1
          try clear m
          try clear hs
          go_enter Tryd.func81, Tryd.ntmps81
          go_wp2_with fail
          refine (hQ.out _).mono ?_; rintro e w' ⟨rfl, rfl⟩
          go_wp2
          go_ret
          exact ⟨rfl, below_one⟩

theorem rMay_any (k : Int) (x : Nat) (s : ByteArray) (r : Int) (w : World) (hk : 0 ≤ k) (hx : x < 18446744073709551616) :
    Calls Tryd.prog 81 #[val k x s r] w fun e w' => e = .returned (.bool (mayV k x s r)) ∧ Below w.heap.size w w' := by
  by_cases h : 8 < k
  · have : mayV k x s r = false := by
      unfold mayV
      rw [decide_eq_false (by omega)]; rfl
    rw [this]
    exact rMay_big k x s r w h
  · have hc : k = 0 ∨ k = 1 ∨ k = 2 ∨ k = 3 ∨ k = 4 ∨ k = 5 ∨ k = 6 ∨ k = 7 ∨ k = 8 := by omega
    rcases hc with rfl | rfl | rfl | rfl | rfl | rfl | rfl | rfl | rfl
    · exact rMay_0 x s r w hx
    · exact rMay_1 x s r w hx
    · exact rMay_2 x s r w hx
    · exact rMay_3 x s r w hx
    · exact rMay_4 x s r w hx
    · exact rMay_5 x s r w hx
    · exact rMay_6 x s r w hx
    · exact rMay_7 x s r w hx
    · exact rMay_8 x s r w hx
end Go.Proofs.YtajmdpndbfmdmaaDoor
