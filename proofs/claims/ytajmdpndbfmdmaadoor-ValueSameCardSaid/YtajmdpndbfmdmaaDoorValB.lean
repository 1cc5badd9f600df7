/-
  value.May and the document's May return the same. Conditions: the number is a word of 64 bits, the kind a byte.
-/
import Derived.Test.YtajmdpndbfmdmaaDoorValA
import Derived.Test.YtajmdpndbfmdmaaDoorNuB
import Derived.Test.YtajmdpndbfmdmaaDoorSt
import Derived.Laws.StructEq
namespace Go.Proofs.YtajmdpndbfmdmaaDoor
open Go Go.RowKit

@[go_sem] theorem run_equalIn_float {P : Program} (w : World) (d : Nat) (t : TypeId) (k k' : FloatKind) (a b : Nat) (h : P.underlying t = some (.float k')) : (Op.equalIn (d + 1) t (.float k a) (.float k b)).run P w = .ok (k.format.order a b == some .eq) w := by
  simp [Op.equalIn, run_underlying h]; rfl

def numV (k : Int) (x : Nat) : Bool := if k = 2 then decide (x = 0) || decide (x = 4607182418800017408) else if k = 3 then Fl.may x else decide (x = 0)
/-- May a value be? -/
def mayV (k : Int) (x : Nat) (s : ByteArray) (r : Int) : Bool :=
  decide (k ≤ 8) && numV k x && (decide (s.size = 0) || (decide (k = 4) && decide (s.size ≤ 4096))) && (decide (r = 0) || (decide (5 ≤ k) && decide (0 < r)))

/-- A float beside nought and one: the two noughts, one, others. -/
theorem noughts {x : Nat} (hx : x < 18446744073709551616) : (Fl.feq x 0 = true ∧ Fl.feq x 4607182418800017408 = false ∧ Fl.may x = decide (x = 0) ∧ x ≠ 4607182418800017408) ∨ (Fl.feq x 0 = false ∧ x ≠ 0 ∧ ((Fl.feq x 4607182418800017408 = true ∧ x = 4607182418800017408) ∨ (Fl.feq x 4607182418800017408 = false ∧ x ≠ 4607182418800017408))) := by
  by_cases h0 : x = 0
  · subst h0; exact .inl (by decide +kernel)
  · by_cases h1 : x = 9223372036854775808
    · subst h1; exact .inl (by decide +kernel)
    · have hk : Fl.key x ≠ 0 := fun e => ((Fl.key_zero hx).1 e).elim h0 h1
      have f0 : Fl.feq x 0 = false := by
        unfold Fl.feq
        rw [Fl.key_zero']
        simp [hk]
      by_cases h2 : x = 4607182418800017408
      · subst h2; exact .inr (by decide +kernel)
      · refine .inr ⟨f0, h0, .inr ⟨?_, h2⟩⟩
        unfold Fl.feq
        have : Fl.key x ≠ Fl.key 4607182418800017408 := fun e => h2 (Fl.key_inj hx (by decide) e hk)
        simp [this]

theorem below_two {w : World} {a b : Obj} : Below w.heap.size w ((w.alloc a).alloc b) := ((Below.refl _ _).alloc (Nat.le_refl _) _).alloc (by simp) _

theorem vMay_big (k : Int) (x : Nat) (s : ByteArray) (r : Int) (w : World) (h : 8 < k ∨ r < 0 ∨ 4096 < s.size) :
    Calls Tryd.prog 63 #[val k x s r] w fun e w' => e = .returned (.bool false) ∧ Below w.heap.size w w' := by
  unfold val
  by_cases h1 : 8 < k
  · clear h
    go_enter Tryd.func63, Tryd.ntmps63
    go_wp2
    go_ret
    exact ⟨rfl, below_one⟩
  · by_cases h2 : r < 0
    · clear h
      go_enter Tryd.func63, Tryd.ntmps63
      go_wp2
      go_ret
      exact ⟨rfl, below_one⟩
    · have h3 : 4096 < (s.size : Int) := by omega
      clear h
      go_enter Tryd.func63, Tryd.ntmps63
      go_wp2
      go_ret
      exact ⟨rfl, below_one⟩

set_option maxHeartbeats 1000000 in
theorem vMay_0 (x : Nat) (s : ByteArray) (r : Int) (w : World) (hx : x < 18446744073709551616) (h2 : ¬ r < 0) (h3 : ¬ 4096 < (s.size : Int)) :
    Calls Tryd.prog 63 #[val 0 x s r] w fun e w' => e = .returned (.bool (mayV 0 x s r)) ∧ Below w.heap.size w w' := by
  have hM := Lib.hid (fun w' => may_any x w' hx)
  have hZ := Lib.hid (fun w' => may_any 0 w' (by decide))
  rw [Fl.may_zero] at hZ
  have e1 := Fl.ord_eql hx (y := 0) (by decide)
  have e3 := Fl.ord_neq hx (y := 0) (by decide)
  have e2 := Fl.ord_neq hx (y := 4607182418800017408) (by decide)
  have e0 : (FloatKind.f64.format.order 0 0 == some .eq) = true := by decide +kernel
  have hN := noughts hx
  have hs3 : s.size ≤ 4096 := by omega
  unfold val
  rcases hN with ⟨f1, f2, f3, f4⟩ | ⟨f1, f2, f5⟩
  · rw [f1] at e1 e3
    rw [f2] at e2
    have f6 : decide (x = 0) = Fl.may x := f3.symm
    clear f3 f1 f2 f4 e3 e2 hx
    by_cases hs : s.size = 0
    · obtain rfl := empty_of hs
      by_cases hr : r = 0
      · subst hr
        have hres : mayV 0 x ByteArray.empty 0 = Fl.may x := by unfold mayV numV; simp [f6]
        rw [hres]
        clear hres
        try clear f6
        try clear f0
        try clear f2
        try clear f4
        try clear hs
        try clear m
        go_enter Tryd.func63, Tryd.ntmps63
        go_wp2_with fail
        refine (hM.out _).mono ?_; rintro e w' ⟨rfl, rfl⟩
        go_wp2
        all_goals
          go_ret
          exact ⟨rfl, by first | exact below_one | exact below_two | exact Below.refl _ _⟩
      · have hr2 : (r == 0) = false := by rw [beq_eq_false_iff_ne]; exact hr
        have hres : mayV 0 x ByteArray.empty r = false := by unfold mayV numV; simp [hr, f6]
        rw [hres]
        clear hres
        try clear f6
        try clear f0
        try clear f2
        try clear f4
        try clear hs
        try clear m
        go_enter Tryd.func63, Tryd.ntmps63
        go_wp2
        all_goals
          go_ret
          exact ⟨rfl, by first | exact below_one | exact below_two | exact Below.refl _ _⟩
    · have he := isEmpty_of hs
      have hn : s.toList ≠ [] := by intro e; rw [e] at he; cases he
      have hres : mayV 0 x s r = false := by unfold mayV numV; simp [hs, f6]
      rw [hres]
      clear hres
      try clear f6
      try clear f0
      try clear f2
      try clear f4
      try clear hs
      try clear m
      go_enter Tryd.func63, Tryd.ntmps63
      go_wp2
      all_goals
        go_ret
        exact ⟨rfl, by first | exact below_one | exact below_two | exact Below.refl _ _⟩
  · rw [f1] at e1 e3
    clear f1 f5 e3 e2 hx
    have hres : mayV 0 x s r = false := by unfold mayV numV; simp [f2]
    rw [hres]
    clear hres
    try clear f6
    try clear f0
    try clear f2
    try clear f4
    try clear hs
    try clear m
    go_enter Tryd.func63, Tryd.ntmps63
    go_wp2
    all_goals
      go_ret
      exact ⟨rfl, by first | exact below_one | exact below_two | exact Below.refl _ _⟩
set_option maxHeartbeats 1000000 in
theorem vMay_1 (x : Nat) (s : ByteArray) (r : Int) (w : World) (hx : x < 18446744073709551616) (h2 : ¬ r < 0) (h3 : ¬ 4096 < (s.size : Int)) :
    Calls Tryd.prog 63 #[val 1 x s r] w fun e w' => e = .returned (.bool (mayV 1 x s r)) ∧ Below w.heap.size w w' := by
  have hM := Lib.hid (fun w' => may_any x w' hx)
  have hZ := Lib.hid (fun w' => may_any 0 w' (by decide))
  rw [Fl.may_zero] at hZ
  have e1 := Fl.ord_eql hx (y := 0) (by decide)
  have e3 := Fl.ord_neq hx (y := 0) (by decide)
  have e2 := Fl.ord_neq hx (y := 4607182418800017408) (by decide)
  have e0 : (FloatKind.f64.format.order 0 0 == some .eq) = true := by decide +kernel
  have hN := noughts hx
  have hs3 : s.size ≤ 4096 := by omega
  unfold val
  rcases hN with ⟨f1, f2, f3, f4⟩ | ⟨f1, f2, f5⟩
  · rw [f1] at e1 e3
    rw [f2] at e2
    have f6 : decide (x = 0) = Fl.may x := f3.symm
    clear f3 f1 f2 f4 e3 e2 hx
    by_cases hs : s.size = 0
    · obtain rfl := empty_of hs
      by_cases hr : r = 0
      · subst hr
        have hres : mayV 1 x ByteArray.empty 0 = Fl.may x := by unfold mayV numV; simp [f6]
        rw [hres]
        clear hres
        try clear f6
        try clear f0
        try clear f2
        try clear f4
        try clear hs
        try clear m
        go_enter Tryd.func63, Tryd.ntmps63
        go_wp2_with fail
        refine (hM.out _).mono ?_; rintro e w' ⟨rfl, rfl⟩
        go_wp2
        all_goals
          go_ret
          exact ⟨rfl, by first | exact below_one | exact below_two | exact Below.refl _ _⟩
      · have hr2 : (r == 0) = false := by rw [beq_eq_false_iff_ne]; exact hr
        have hres : mayV 1 x ByteArray.empty r = false := by unfold mayV numV; simp [hr, f6]
        rw [hres]
        clear hres
        try clear f6
        try clear f0
        try clear f2
        try clear f4
        try clear hs
        try clear m
        go_enter Tryd.func63, Tryd.ntmps63
        go_wp2
        all_goals
          go_ret
          exact ⟨rfl, by first | exact below_one | exact below_two | exact Below.refl _ _⟩
    · have he := isEmpty_of hs
      have hn : s.toList ≠ [] := by intro e; rw [e] at he; cases he
      have hres : mayV 1 x s r = false := by unfold mayV numV; simp [hs, f6]
      rw [hres]
      clear hres
      try clear f6
      try clear f0
      try clear f2
      try clear f4
      try clear hs
      try clear m
      go_enter Tryd.func63, Tryd.ntmps63
      go_wp2
      all_goals
        go_ret
        exact ⟨rfl, by first | exact below_one | exact below_two | exact Below.refl _ _⟩
  · rw [f1] at e1 e3
    clear f1 f5 e3 e2 hx
    have hres : mayV 1 x s r = false := by unfold mayV numV; simp [f2]
    rw [hres]
    clear hres
    try clear f6
    try clear f0
    try clear f2
    try clear f4
    try clear hs
    try clear m
    go_enter Tryd.func63, Tryd.ntmps63
    go_wp2
    all_goals
      go_ret
      exact ⟨rfl, by first | exact below_one | exact below_two | exact Below.refl _ _⟩
set_option maxHeartbeats 1000000 in
theorem vMay_2 (x : Nat) (s : ByteArray) (r : Int) (w : World) (hx : x < 18446744073709551616) (h2 : ¬ r < 0) (h3 : ¬ 4096 < (s.size : Int)) :
    Calls Tryd.prog 63 #[val 2 x s r] w fun e w' => e = .returned (.bool (mayV 2 x s r)) ∧ Below w.heap.size w w' := by
  have hM := Lib.hid (fun w' => may_any x w' hx)
  have hZ := Lib.hid (fun w' => may_any 0 w' (by decide))
  rw [Fl.may_zero] at hZ
  have e1 := Fl.ord_eql hx (y := 0) (by decide)
  have e3 := Fl.ord_neq hx (y := 0) (by decide)
  have e2 := Fl.ord_neq hx (y := 4607182418800017408) (by decide)
  have e0 : (FloatKind.f64.format.order 0 0 == some .eq) = true := by decide +kernel
  have hN := noughts hx
  have hs3 : s.size ≤ 4096 := by omega
  unfold val
  rcases hN with ⟨f1, f2, f3, f4⟩ | ⟨f1, f2, ⟨f5, rfl⟩ | ⟨f5, f6⟩⟩
  · rw [f1] at e1 e3
    rw [f2] at e2
    by_cases f0 : x = 0
    · have m : Fl.may x = true := by rw [f3, decide_eq_true f0]
      rw [m] at hM
      clear f3 f1 f2 f4 hx m
      by_cases hs : s.size = 0
      · obtain rfl := empty_of hs
        by_cases hr : r = 0
        · subst hr
          have hres : mayV 2 x ByteArray.empty 0 = true := by unfold mayV numV; simp [f0]
          rw [hres]
          clear hres
          try clear f6
          try clear f0
          try clear f2
          try clear f4
          try clear hs
          try clear m
          go_enter Tryd.func63, Tryd.ntmps63
          go_wp2_with fail
          refine (hM.out _).mono ?_; rintro e w' ⟨rfl, rfl⟩
          go_wp2_with fail
          refine (hZ.out _).mono ?_; rintro e w' ⟨rfl, rfl⟩
          go_wp2
          all_goals
            go_ret
            exact ⟨rfl, by first | exact below_one | exact below_two | exact Below.refl _ _⟩
        · have hr2 : (r == 0) = false := by rw [beq_eq_false_iff_ne]; exact hr
          have hres : mayV 2 x ByteArray.empty r = false := by unfold mayV numV; simp [hr, f0]
          rw [hres]
          clear hres
          try clear f6
          try clear f0
          try clear f2
          try clear f4
          try clear hs
          try clear m
          go_enter Tryd.func63, Tryd.ntmps63
          go_wp2_with fail
          refine (hM.out _).mono ?_; rintro e w' ⟨rfl, rfl⟩
          go_wp2
          all_goals
            go_ret
            exact ⟨rfl, by first | exact below_one | exact below_two | exact Below.refl _ _⟩
      · have he := isEmpty_of hs
        have hn : s.toList ≠ [] := by intro e; rw [e] at he; cases he
        have hres : mayV 2 x s r = false := by unfold mayV numV; simp [hs, f0]
        rw [hres]
        clear hres
        try clear f6
        try clear f0
        try clear f2
        try clear f4
        try clear hs
        try clear m
        go_enter Tryd.func63, Tryd.ntmps63
        go_wp2_with fail
        refine (hM.out _).mono ?_; rintro e w' ⟨rfl, rfl⟩
        go_wp2
        all_goals
          go_ret
          exact ⟨rfl, by first | exact below_one | exact below_two | exact Below.refl _ _⟩
    · have m : Fl.may x = false := by rw [f3, decide_eq_false f0]
      rw [m] at hM
      clear f3 f1 f2 hx m
      have hres : mayV 2 x s r = false := by unfold mayV numV; simp [f0, f4]
      rw [hres]
      clear hres
      try clear f6
      try clear f0
      try clear f2
      try clear f4
      try clear hs
      try clear m
      go_enter Tryd.func63, Tryd.ntmps63
      go_wp2_with fail
      refine (hM.out _).mono ?_; rintro e w' ⟨rfl, rfl⟩
      go_wp2
      all_goals
        go_ret
        exact ⟨rfl, by first | exact below_one | exact below_two | exact Below.refl _ _⟩
  · rw [f1] at e1 e3
    rw [f5] at e2
    clear f1 f2 f5 hx
    by_cases hs : s.size = 0
    · obtain rfl := empty_of hs
      by_cases hr : r = 0
      · subst hr
        have hres : mayV 2 4607182418800017408 ByteArray.empty 0 = true := by unfold mayV numV; simp []
        rw [hres]
        clear hres
        try clear f6
        try clear f0
        try clear f2
        try clear f4
        try clear hs
        try clear m
        go_enter Tryd.func63, Tryd.ntmps63
        go_wp2_with fail
        refine (hZ.out _).mono ?_; rintro e w' ⟨rfl, rfl⟩
        go_wp2
        all_goals
          go_ret
          exact ⟨rfl, by first | exact below_one | exact below_two | exact Below.refl _ _⟩
      · have hr2 : (r == 0) = false := by rw [beq_eq_false_iff_ne]; exact hr
        have hres : mayV 2 4607182418800017408 ByteArray.empty r = false := by unfold mayV numV; simp [hr, ]
        rw [hres]
        clear hres
        try clear f6
        try clear f0
        try clear f2
        try clear f4
        try clear hs
        try clear m
        go_enter Tryd.func63, Tryd.ntmps63
        go_wp2
        all_goals
          go_ret
          exact ⟨rfl, by first | exact below_one | exact below_two | exact Below.refl _ _⟩
    · have he := isEmpty_of hs
      have hn : s.toList ≠ [] := by intro e; rw [e] at he; cases he
      have hres : mayV 2 4607182418800017408 s r = false := by unfold mayV numV; simp [hs, ]
      rw [hres]
      clear hres
      try clear f6
      try clear f0
      try clear f2
      try clear f4
      try clear hs
      try clear m
      go_enter Tryd.func63, Tryd.ntmps63
      go_wp2
      all_goals
        go_ret
        exact ⟨rfl, by first | exact below_one | exact below_two | exact Below.refl _ _⟩
  · rw [f1] at e1 e3
    rw [f5] at e2
    clear f1 f5 hx
    have hres : mayV 2 x s r = false := by unfold mayV numV; simp [f2, f6]
    rw [hres]
    clear hres
    try clear f6
    try clear f0
    try clear f2
    try clear f4
    try clear hs
    try clear m
    go_enter Tryd.func63, Tryd.ntmps63
    go_wp2
    all_goals
      go_ret
      exact ⟨rfl, by first | exact below_one | exact below_two | exact Below.refl _ _⟩
set_option maxHeartbeats 1000000 in
theorem vMay_3 (x : Nat) (s : ByteArray) (r : Int) (w : World) (hx : x < 18446744073709551616) (h2 : ¬ r < 0) (h3 : ¬ 4096 < (s.size : Int)) :
    Calls Tryd.prog 63 #[val 3 x s r] w fun e w' => e = .returned (.bool (mayV 3 x s r)) ∧ Below w.heap.size w w' := by
  have hM := Lib.hid (fun w' => may_any x w' hx)
  have hZ := Lib.hid (fun w' => may_any 0 w' (by decide))
  rw [Fl.may_zero] at hZ
  have e1 := Fl.ord_eql hx (y := 0) (by decide)
  have e3 := Fl.ord_neq hx (y := 0) (by decide)
  have e2 := Fl.ord_neq hx (y := 4607182418800017408) (by decide)
  have e0 : (FloatKind.f64.format.order 0 0 == some .eq) = true := by decide +kernel
  have hN := noughts hx
  have hs3 : s.size ≤ 4096 := by omega
  unfold val
  cases m : Fl.may x
  · rw [m] at hM
    clear hN hx e1 e2 e3
    have hres : mayV 3 x s r = false := by unfold mayV numV; simp [m]
    rw [hres]
    clear hres
    try clear f6
    try clear f0
    try clear f2
    try clear f4
    try clear hs
    try clear m
    go_enter Tryd.func63, Tryd.ntmps63
    go_wp2_with fail
    refine (hM.out _).mono ?_; rintro e w' ⟨rfl, rfl⟩
    go_wp2
    all_goals
      go_ret
      exact ⟨rfl, by first | exact below_one | exact below_two | exact Below.refl _ _⟩
  · rw [m] at hM
    clear hN hx e1 e2 e3
    by_cases hs : s.size = 0
    · obtain rfl := empty_of hs
      by_cases hr : r = 0
      · subst hr
        have hres : mayV 3 x ByteArray.empty 0 = true := by unfold mayV numV; simp [m]
        rw [hres]
        clear hres
        try clear f6
        try clear f0
        try clear f2
        try clear f4
        try clear hs
        try clear m
        go_enter Tryd.func63, Tryd.ntmps63
        go_wp2_with fail
        refine (hM.out _).mono ?_; rintro e w' ⟨rfl, rfl⟩
        go_wp2_with fail
        refine (hZ.out _).mono ?_; rintro e w' ⟨rfl, rfl⟩
        go_wp2
        all_goals
          go_ret
          exact ⟨rfl, by first | exact below_one | exact below_two | exact Below.refl _ _⟩
      · have hr2 : (r == 0) = false := by rw [beq_eq_false_iff_ne]; exact hr
        have hres : mayV 3 x ByteArray.empty r = false := by unfold mayV numV; simp [hr, m]
        rw [hres]
        clear hres
        try clear f6
        try clear f0
        try clear f2
        try clear f4
        try clear hs
        try clear m
        go_enter Tryd.func63, Tryd.ntmps63
        go_wp2_with fail
        refine (hM.out _).mono ?_; rintro e w' ⟨rfl, rfl⟩
        go_wp2
        all_goals
          go_ret
          exact ⟨rfl, by first | exact below_one | exact below_two | exact Below.refl _ _⟩
    · have he := isEmpty_of hs
      have hn : s.toList ≠ [] := by intro e; rw [e] at he; cases he
      have hres : mayV 3 x s r = false := by unfold mayV numV; simp [hs, m]
      rw [hres]
      clear hres
      try clear f6
      try clear f0
      try clear f2
      try clear f4
      try clear hs
      try clear m
      go_enter Tryd.func63, Tryd.ntmps63
      go_wp2_with fail
      refine (hM.out _).mono ?_; rintro e w' ⟨rfl, rfl⟩
      go_wp2
      all_goals
        go_ret
        exact ⟨rfl, by first | exact below_one | exact below_two | exact Below.refl _ _⟩
set_option maxHeartbeats 1000000 in
theorem vMay_4 (x : Nat) (s : ByteArray) (r : Int) (w : World) (hx : x < 18446744073709551616) (h2 : ¬ r < 0) (h3 : ¬ 4096 < (s.size : Int)) :
    Calls Tryd.prog 63 #[val 4 x s r] w fun e w' => e = .returned (.bool (mayV 4 x s r)) ∧ Below w.heap.size w w' := by
  have hM := Lib.hid (fun w' => may_any x w' hx)
  have hZ := Lib.hid (fun w' => may_any 0 w' (by decide))
  rw [Fl.may_zero] at hZ
  have e1 := Fl.ord_eql hx (y := 0) (by decide)
  have e3 := Fl.ord_neq hx (y := 0) (by decide)
  have e2 := Fl.ord_neq hx (y := 4607182418800017408) (by decide)
  have e0 : (FloatKind.f64.format.order 0 0 == some .eq) = true := by decide +kernel
  have hN := noughts hx
  have hs3 : s.size ≤ 4096 := by omega
  unfold val
  rcases hN with ⟨f1, f2, f3, f4⟩ | ⟨f1, f2, f5⟩
  · rw [f1] at e1 e3
    rw [f2] at e2
    have f6 : decide (x = 0) = Fl.may x := f3.symm
    clear f3 f1 f2 f4 e3 e2 hx
    by_cases hr : r = 0
    · subst hr
      have hres : mayV 4 x s 0 = Fl.may x := by unfold mayV numV; simp [f6, hs3]
      rw [hres]
      clear hres
      try clear f6
      try clear f0
      try clear f2
      try clear f4
      try clear hs
      try clear m
      go_enter Tryd.func63, Tryd.ntmps63
      go_wp2_with fail
      refine (hM.out _).mono ?_; rintro e w' ⟨rfl, rfl⟩
      go_wp2
      all_goals
        go_ret
        exact ⟨rfl, by first | exact below_one | exact below_two | exact Below.refl _ _⟩
    · have hr2 : (r == 0) = false := by rw [beq_eq_false_iff_ne]; exact hr
      have hres : mayV 4 x s r = false := by unfold mayV numV; simp [hr, f6, hs3]
      rw [hres]
      clear hres
      try clear f6
      try clear f0
      try clear f2
      try clear f4
      try clear hs
      try clear m
      go_enter Tryd.func63, Tryd.ntmps63
      go_wp2
      all_goals
        go_ret
        exact ⟨rfl, by first | exact below_one | exact below_two | exact Below.refl _ _⟩
  · rw [f1] at e1 e3
    clear f1 f5 e3 e2 hx
    have hres : mayV 4 x s r = false := by unfold mayV numV; simp [f2]
    rw [hres]
    clear hres
    try clear f6
    try clear f0
    try clear f2
    try clear f4
    try clear hs
    try clear m
    go_enter Tryd.func63, Tryd.ntmps63
    go_wp2
    all_goals
      go_ret
      exact ⟨rfl, by first | exact below_one | exact below_two | exact Below.refl _ _⟩
set_option maxHeartbeats 1000000 in
theorem vMay_5 (x : Nat) (s : ByteArray) (r : Int) (w : World) (hx : x < 18446744073709551616) (h2 : ¬ r < 0) (h3 : ¬ 4096 < (s.size : Int)) :
    Calls Tryd.prog 63 #[val 5 x s r] w fun e w' => e = .returned (.bool (mayV 5 x s r)) ∧ Below w.heap.size w w' := by
  have hM := Lib.hid (fun w' => may_any x w' hx)
  have hZ := Lib.hid (fun w' => may_any 0 w' (by decide))
  rw [Fl.may_zero] at hZ
  have e1 := Fl.ord_eql hx (y := 0) (by decide)
  have e3 := Fl.ord_neq hx (y := 0) (by decide)
  have e2 := Fl.ord_neq hx (y := 4607182418800017408) (by decide)
  have e0 : (FloatKind.f64.format.order 0 0 == some .eq) = true := by decide +kernel
  have hN := noughts hx
  have hs3 : s.size ≤ 4096 := by omega
  unfold val
  rcases hN with ⟨f1, f2, f3, f4⟩ | ⟨f1, f2, f5⟩
  · rw [f1] at e1 e3
    rw [f2] at e2
    have f6 : decide (x = 0) = Fl.may x := f3.symm
    clear f3 f1 f2 f4 e3 e2 hx
    by_cases hs : s.size = 0
    · obtain rfl := empty_of hs
      have hres : mayV 5 x ByteArray.empty r = Fl.may x := by unfold mayV numV; simp [f6, show r = 0 ∨ 0 < r from by omega]
      rw [hres]
      clear hres
      try clear f6
      try clear f0
      try clear f2
      try clear f4
      try clear hs
      try clear m
      go_enter Tryd.func63, Tryd.ntmps63
      go_wp2_with fail
      refine (hM.out _).mono ?_; rintro e w' ⟨rfl, rfl⟩
      go_wp2
      all_goals
        go_ret
        exact ⟨rfl, by first | exact below_one | exact below_two | exact Below.refl _ _⟩
    · have he := isEmpty_of hs
      have hn : s.toList ≠ [] := by intro e; rw [e] at he; cases he
      have hres : mayV 5 x s r = false := by unfold mayV numV; simp [hs, f6, hs3]
      rw [hres]
      clear hres
      try clear f6
      try clear f0
      try clear f2
      try clear f4
      try clear hs
      try clear m
      go_enter Tryd.func63, Tryd.ntmps63
      go_wp2
      all_goals
        go_ret
        exact ⟨rfl, by first | exact below_one | exact below_two | exact Below.refl _ _⟩
  · rw [f1] at e1 e3
    clear f1 f5 e3 e2 hx
    have hres : mayV 5 x s r = false := by unfold mayV numV; simp [f2]
    rw [hres]
    clear hres
    try clear f6
    try clear f0
    try clear f2
    try clear f4
    try clear hs
    try clear m
    go_enter Tryd.func63, Tryd.ntmps63
    go_wp2
    all_goals
      go_ret
      exact ⟨rfl, by first | exact below_one | exact below_two | exact Below.refl _ _⟩
set_option maxHeartbeats 1000000 in
theorem vMay_6 (x : Nat) (s : ByteArray) (r : Int) (w : World) (hx : x < 18446744073709551616) (h2 : ¬ r < 0) (h3 : ¬ 4096 < (s.size : Int)) :
    Calls Tryd.prog 63 #[val 6 x s r] w fun e w' => e = .returned (.bool (mayV 6 x s r)) ∧ Below w.heap.size w w' := by
  have hM := Lib.hid (fun w' => may_any x w' hx)
  have hZ := Lib.hid (fun w' => may_any 0 w' (by decide))
  rw [Fl.may_zero] at hZ
  have e1 := Fl.ord_eql hx (y := 0) (by decide)
  have e3 := Fl.ord_neq hx (y := 0) (by decide)
  have e2 := Fl.ord_neq hx (y := 4607182418800017408) (by decide)
  have e0 : (FloatKind.f64.format.order 0 0 == some .eq) = true := by decide +kernel
  have hN := noughts hx
  have hs3 : s.size ≤ 4096 := by omega
  unfold val
  rcases hN with ⟨f1, f2, f3, f4⟩ | ⟨f1, f2, f5⟩
  · rw [f1] at e1 e3
    rw [f2] at e2
    have f6 : decide (x = 0) = Fl.may x := f3.symm
    clear f3 f1 f2 f4 e3 e2 hx
    by_cases hs : s.size = 0
    · obtain rfl := empty_of hs
      have hres : mayV 6 x ByteArray.empty r = Fl.may x := by unfold mayV numV; simp [f6, show r = 0 ∨ 0 < r from by omega]
      rw [hres]
      clear hres
      try clear f6
      try clear f0
      try clear f2
      try clear f4
      try clear hs
      try clear m
      go_enter Tryd.func63, Tryd.ntmps63
      go_wp2_with fail
      refine (hM.out _).mono ?_; rintro e w' ⟨rfl, rfl⟩
      go_wp2
      all_goals
        go_ret
        exact ⟨rfl, by first | exact below_one | exact below_two | exact Below.refl _ _⟩
    · have he := isEmpty_of hs
      have hn : s.toList ≠ [] := by intro e; rw [e] at he; cases he
      have hres : mayV 6 x s r = false := by unfold mayV numV; simp [hs, f6, hs3]
      rw [hres]
      clear hres
      try clear f6
      try clear f0
      try clear f2
      try clear f4
      try clear hs
      try clear m
      go_enter Tryd.func63, Tryd.ntmps63
      go_wp2
      all_goals
        go_ret
        exact ⟨rfl, by first | exact below_one | exact below_two | exact Below.refl _ _⟩
  · rw [f1] at e1 e3
    clear f1 f5 e3 e2 hx
    have hres : mayV 6 x s r = false := by unfold mayV numV; simp [f2]
    rw [hres]
    clear hres
    try clear f6
    try clear f0
    try clear f2
    try clear f4
    try clear hs
    try clear m
    go_enter Tryd.func63, Tryd.ntmps63
    go_wp2
    all_goals
      go_ret
      exact ⟨rfl, by first | exact below_one | exact below_two | exact Below.refl _ _⟩
set_option maxHeartbeats 1000000 in
theorem vMay_7 (x : Nat) (s : ByteArray) (r : Int) (w : World) (hx : x < 18446744073709551616) (h2 : ¬ r < 0) (h3 : ¬ 4096 < (s.size : Int)) :
    Calls Tryd.prog 63 #[val 7 x s r] w fun e w' => e = .returned (.bool (mayV 7 x s r)) ∧ Below w.heap.size w w' := by
  have hM := Lib.hid (fun w' => may_any x w' hx)
  have hZ := Lib.hid (fun w' => may_any 0 w' (by decide))
  rw [Fl.may_zero] at hZ
  have e1 := Fl.ord_eql hx (y := 0) (by decide)
  have e3 := Fl.ord_neq hx (y := 0) (by decide)
  have e2 := Fl.ord_neq hx (y := 4607182418800017408) (by decide)
  have e0 : (FloatKind.f64.format.order 0 0 == some .eq) = true := by decide +kernel
  have hN := noughts hx
  have hs3 : s.size ≤ 4096 := by omega
  unfold val
  rcases hN with ⟨f1, f2, f3, f4⟩ | ⟨f1, f2, f5⟩
  · rw [f1] at e1 e3
    rw [f2] at e2
    have f6 : decide (x = 0) = Fl.may x := f3.symm
    clear f3 f1 f2 f4 e3 e2 hx
    by_cases hs : s.size = 0
    · obtain rfl := empty_of hs
      have hres : mayV 7 x ByteArray.empty r = Fl.may x := by unfold mayV numV; simp [f6, show r = 0 ∨ 0 < r from by omega]
      rw [hres]
      clear hres
      try clear f6
      try clear f0
      try clear f2
      try clear f4
      try clear hs
      try clear m
      go_enter Tryd.func63, Tryd.ntmps63
      go_wp2_with fail
      refine (hM.out _).mono ?_; rintro e w' ⟨rfl, rfl⟩
      go_wp2
      all_goals
        go_ret
        exact ⟨rfl, by first | exact below_one | exact below_two | exact Below.refl _ _⟩
    · have he := isEmpty_of hs
      have hn : s.toList ≠ [] := by intro e; rw [e] at he; cases he
      have hres : mayV 7 x s r = false := by unfold mayV numV; simp [hs, f6, hs3]
      rw [hres]
      clear hres
      try clear f6
      try clear f0
      try clear f2
      try clear f4
      try clear hs
      try clear m
      go_enter Tryd.func63, Tryd.ntmps63
      go_wp2
      all_goals
        go_ret
        exact ⟨rfl, by first | exact below_one | exact below_two | exact Below.refl _ _⟩
  · rw [f1] at e1 e3
    clear f1 f5 e3 e2 hx
    have hres : mayV 7 x s r = false := by unfold mayV numV; simp [f2]
    rw [hres]
    clear hres
    try clear f6
    try clear f0
    try clear f2
    try clear f4
    try clear hs
    try clear m
    go_enter Tryd.func63, Tryd.ntmps63
    go_wp2
    all_goals
      go_ret
      exact ⟨rfl, by first | exact below_one | exact below_two | exact Below.refl _ _⟩
set_option maxHeartbeats 1000000 in
theorem vMay_8 (x : Nat) (s : ByteArray) (r : Int) (w : World) (hx : x < 18446744073709551616) (h2 : ¬ r < 0) (h3 : ¬ 4096 < (s.size : Int)) :
    Calls Tryd.prog 63 #[val 8 x s r] w fun e w' => e = .returned (.bool (mayV 8 x s r)) ∧ Below w.heap.size w w' := by
  have hM := Lib.hid (fun w' => may_any x w' hx)
  have hZ := Lib.hid (fun w' => may_any 0 w' (by decide))
  rw [Fl.may_zero] at hZ
  have e1 := Fl.ord_eql hx (y := 0) (by decide)
  have e3 := Fl.ord_neq hx (y := 0) (by decide)
  have e2 := Fl.ord_neq hx (y := 4607182418800017408) (by decide)
  have e0 : (FloatKind.f64.format.order 0 0 == some .eq) = true := by decide +kernel
  have hN := noughts hx
  have hs3 : s.size ≤ 4096 := by omega
  unfold val
  rcases hN with ⟨f1, f2, f3, f4⟩ | ⟨f1, f2, f5⟩
  · rw [f1] at e1 e3
    rw [f2] at e2
    have f6 : decide (x = 0) = Fl.may x := f3.symm
    clear f3 f1 f2 f4 e3 e2 hx
    by_cases hs : s.size = 0
    · obtain rfl := empty_of hs
      have hres : mayV 8 x ByteArray.empty r = Fl.may x := by unfold mayV numV; simp [f6, show r = 0 ∨ 0 < r from by omega]
      rw [hres]
      clear hres
      try clear f6
      try clear f0
      try clear f2
      try clear f4
      try clear hs
      try clear m
      go_enter Tryd.func63, Tryd.ntmps63
      go_wp2_with fail
      refine (hM.out _).mono ?_; rintro e w' ⟨rfl, rfl⟩
      go_wp2
      all_goals
        go_ret
        exact ⟨rfl, by first | exact below_one | exact below_two | exact Below.refl _ _⟩
    · have he := isEmpty_of hs
      have hn : s.toList ≠ [] := by intro e; rw [e] at he; cases he
      have hres : mayV 8 x s r = false := by unfold mayV numV; simp [hs, f6, hs3]
      rw [hres]
      clear hres
      try clear f6
      try clear f0
      try clear f2
      try clear f4
      try clear hs
      try clear m
      go_enter Tryd.func63, Tryd.ntmps63
      go_wp2
      all_goals
        go_ret
        exact ⟨rfl, by first | exact below_one | exact below_two | exact Below.refl _ _⟩
  · rw [f1] at e1 e3
    clear f1 f5 e3 e2 hx
    have hres : mayV 8 x s r = false := by unfold mayV numV; simp [f2]
    rw [hres]
    clear hres
    try clear f6
    try clear f0
    try clear f2
    try clear f4
    try clear hs
    try clear m
    go_enter Tryd.func63, Tryd.ntmps63
    go_wp2
    all_goals
      go_ret
      exact ⟨rfl, by first | exact below_one | exact below_two | exact Below.refl _ _⟩

theorem vMay_any (k : Int) (x : Nat) (s : ByteArray) (r : Int) (w : World) (hk : 0 ≤ k) (hx : x < 18446744073709551616) :
    Calls Tryd.prog 63 #[val k x s r] w fun e w' => e = .returned (.bool (mayV k x s r)) ∧ Below w.heap.size w w' := by
  by_cases h : 8 < k ∨ r < 0 ∨ 4096 < s.size
  · have : mayV k x s r = false := by
      unfold mayV
      rcases h with h | h | h
      · rw [decide_eq_false (by omega)]; rfl
      · rw [decide_eq_false (p := r = 0) (by omega), decide_eq_false (p := 0 < r) (by omega)]; simp
      · rw [decide_eq_false (p := s.size = 0) (by omega), decide_eq_false (p := s.size ≤ 4096) (by omega)]; simp
    rw [this]
    exact vMay_big k x s r w h
  · have h2 : ¬ r < 0 := by omega
    have h3 : ¬ 4096 < (s.size : Int) := by omega
    have hc : k = 0 ∨ k = 1 ∨ k = 2 ∨ k = 3 ∨ k = 4 ∨ k = 5 ∨ k = 6 ∨ k = 7 ∨ k = 8 := by omega
    rcases hc with rfl | rfl | rfl | rfl | rfl | rfl | rfl | rfl | rfl

    · exact vMay_0 x s r w hx h2 h3
    · exact vMay_1 x s r w hx h2 h3
    · exact vMay_2 x s r w hx h2 h3
    · exact vMay_3 x s r w hx h2 h3
    · exact vMay_4 x s r w hx h2 h3
    · exact vMay_5 x s r w hx h2 h3
    · exact vMay_6 x s r w hx h2 h3
    · exact vMay_7 x s r w hx h2 h3
    · exact vMay_8 x s r w hx h2 h3
end Go.Proofs.YtajmdpndbfmdmaaDoor
