/-
  bailiffref01.whole, Index and May return what plain functions of the word say. Conditions: the argument is a word of 64 bits.
-/
import Derived.Test.YtajmdpndbfmdmaaDoorNumB
namespace Go.Proofs.YtajmdpndbfmdmaaDoor
open Go Go.RowKit

theorem inf_of_zero (w : World) : (binOp .quo 22 (.float .f64 4607182418800017408) (.float .f64 0)).run Tryd.prog w = .ok (.float .f64 9218868437227405312) w :=
  run_float_arith w .quo 22 .f64 _ _ _ (by decide +kernel)
theorem inf_of_nzero (w : World) : (binOp .quo 22 (.float .f64 4607182418800017408) (.float .f64 9223372036854775808)).run Tryd.prog w = .ok (.float .f64 18442240474082181120) w :=
  run_float_arith w .quo 22 .f64 _ _ _ (by decide +kernel)

theorem toIntVal_of {x : Nat} {n : Int} (h : (Ieee.double.read x).toInt .zero = some n) (hn : n.natAbs < 9007199254740992) : floatToIntVal .f64 x .i64 = some n := by
  have h : (FloatKind.f64.decode x).toInt .zero = some n := h
  unfold floatToIntVal
  rw [h]
  have h1 : IntKind.i64.min ≤ n := by show (-9223372036854775808 : Int) ≤ n; omega
  have h2 : n ≤ IntKind.i64.max := by show n ≤ (9223372036854775807 : Int); omega
  simp only [h1, h2, and_self, if_true]

theorem conv64 {x : Nat} {n : Int} (h : (Ieee.double.read x).toInt .zero = some n) (hn : n.natAbs < 9007199254740992) (w : World) :
    (convert 22 2 (.float .f64 x)).run Tryd.prog w = .ok (.int .i64 n) w :=
  run_convert_float_int w 22 2 .f64 .i64 x n (by rw [Tryd.underlying22]; rfl) Tryd.underlying2 (toIntVal_of h hn)

/-- bailiffref01.whole. -/
theorem whole_any (x : Nat) (w : World) (hx : x < 18446744073709551616) :
    Calls Tryd.prog 100 #[.float .f64 x] w fun e w' => e = .returned (.tuple #[.int .i64 (Fl.wholeS x).1, .bool (Fl.wholeS x).2]) ∧ w = w' := by
  have g1 := Fl.ord_geq hx (y := 14069245235905429503) (by omega)
  have g2 := Fl.ord_leq hx (y := 4845873199050653695) (by omega)
  have k1 : Fl.fle 14069245235905429503 x = (!Fl.isN x && decide (-4845873199050653695 ≤ Fl.key x)) := by
    unfold Fl.fle; rw [show Fl.isN 14069245235905429503 = false from by decide, show Fl.key 14069245235905429503 = -4845873199050653695 from by decide]; rfl
  have k2 : Fl.fle x 4845873199050653695 = (!Fl.isN x && decide (Fl.key x ≤ 4845873199050653695)) := by
    unfold Fl.fle; rw [Fl.isN_safe, Fl.key_safe']; simp
  cases e1 : Fl.fle 14069245235905429503 x with
  | false =>
    have hs : Fl.wholeS x = (0, false) := by
      unfold Fl.wholeS
      cases hN : Fl.isN x with
      | true => rw [Fl.isN_num? hN]; rfl
      | false => rw [Fl.num?_out (fun h => by rw [k1, hN, decide_eq_true h.1] at e1; cases e1)]; rfl
    rw [hs]
    rw [e1] at g1
    clear k1 k2 e1 hs g2 hx
    go_enter Tryd.func100, Tryd.ntmps100
    go_wp2
    go_ret2
    exact ⟨rfl, rfl⟩
  | true =>
    rw [e1] at g1
    cases e2 : Fl.fle x 4845873199050653695 with
    | false =>
      have hs : Fl.wholeS x = (0, false) := by
        unfold Fl.wholeS
        cases hN : Fl.isN x with
        | true => rw [Fl.isN_num? hN]; rfl
        | false => rw [Fl.num?_out (fun h => by rw [k2, hN, decide_eq_true h.2] at e2; cases e2)]; rfl
      rw [hs]
      rw [e2] at g2
      clear k1 k2 e1 e2 hs hx
      go_enter Tryd.func100, Tryd.ntmps100
      go_wp2
      go_ret2
      exact ⟨rfl, rfl⟩
    | true =>
      rw [e2] at g2
      rw [k1] at e1
      rw [k2] at e2
      have hN : Fl.isN x = false := by cases h : Fl.isN x; rfl; rw [h] at e1; cases e1
      rw [hN] at e1 e2
      have b1 : -4845873199050653695 ≤ Fl.key x := of_decide_eq_true e1
      have b2 : Fl.key x ≤ 4845873199050653695 := of_decide_eq_true e2
      obtain ⟨n, hn, ht, _, _, _, hq⟩ := Fl.num?_iff hx b1 b2
      have hc := conv64 ht hn
      have g3 := Fl.ord_neq (Fl.W_lt hn) hx
      have g4 := Fl.ord_eql hx (y := 0) (by omega)
      have k3 : Fl.feq (Fl.W n) x = decide (Fl.key (Fl.W n) = Fl.key x) := by unfold Fl.feq; rw [Fl.isN_W hn, hN]; rfl
      have k4 : Fl.feq x 0 = decide (Fl.key x = 0) := by unfold Fl.feq; rw [hN, Fl.isN_zero, Fl.key_zero']; rfl
      have hz := Fl.key_zero hx
      rw [k3] at g3
      rw [k4] at g4
      have hs : Fl.wholeS x = Fl.wholeO (if Fl.key (Fl.W n) = Fl.key x ∧ x ≠ 9223372036854775808 then some n else none) := by unfold Fl.wholeS; rw [hq]
      have hfw := Fl.floatOfInt_W
      clear k1 k2 k3 k4 e1 e2 hq ht hN b1 b2
      by_cases c1 : Fl.key (Fl.W n) = Fl.key x
      · rw [decide_eq_true c1] at g3
        by_cases c2 : Fl.key x = 0
        · rw [decide_eq_true c2] at g4
          rcases hz.1 c2 with rfl | rfl
          · rw [if_pos ⟨c1, by decide⟩] at hs
            rw [hs]
            have hd := inf_of_zero
            have g5 : (FloatKind.f64.format.order 9218868437227405312 0 == some .lt) = false := by decide +kernel
            clear hs hz c1 c2 hn hx
            go_enter Tryd.func100, Tryd.ntmps100
            go_wp2
            go_ret2
            exact ⟨rfl, rfl⟩
          · rw [if_neg (fun h => h.2 rfl)] at hs
            rw [hs]
            have hd := inf_of_nzero
            have g5 : (FloatKind.f64.format.order 18442240474082181120 0 == some .lt) = true := by decide +kernel
            clear hs hz c1 c2 hn hx
            go_enter Tryd.func100, Tryd.ntmps100
            go_wp2
            go_ret2
            exact ⟨rfl, rfl⟩
        · rw [decide_eq_false c2] at g4
          rw [if_pos ⟨c1, fun h => c2 (hz.2 (.inr h))⟩] at hs
          rw [hs]
          clear hs hz c1 c2 hn hx
          go_enter Tryd.func100, Tryd.ntmps100
          go_wp2
          go_ret2
          exact ⟨rfl, rfl⟩
      · rw [decide_eq_false c1] at g3
        rw [if_neg (fun h => c1 h.1)] at hs
        rw [hs]
        clear hs hz c1 g4 hn hx
        go_enter Tryd.func100, Tryd.ntmps100
        go_wp2
        go_ret2
        exact ⟨rfl, rfl⟩

theorem may_whole (x : Nat) : Fl.may x = ((Fl.wholeS x).2 || Fl.isN x) := by
  unfold Fl.may Fl.wholeS Fl.wholeO
  cases Fl.num? x <;> cases Fl.isN x <;> rfl

theorem refMay_any (x : Nat) (w : World) (hx : x < 18446744073709551616) :
    Calls Tryd.prog 120 #[.float .f64 x] w fun e w' => e = .returned (.bool (Fl.may x)) ∧ w = w' := by
  have hM := Lib.hid (fun w' => whole_any x w' hx)
  have h1 := Fl.ord_neq hx hx
  rw [Fl.feq_self] at h1
  rw [may_whole]
  generalize Fl.wholeS x = q at hM ⊢
  obtain ⟨n, b⟩ := q
  clear hx
  cases e1 : Fl.isN x <;> rw [e1] at h1 <;> clear e1 <;> cases b
  all_goals
    go_enter Tryd.func120, Tryd.ntmps120
    go_wp2_with (go_at_call 100; refine (hM.out _).mono ?_; rintro e w' ⟨rfl, rfl⟩)
    go_ret
    exact ⟨rfl, rfl⟩
end Go.Proofs.YtajmdpndbfmdmaaDoor
