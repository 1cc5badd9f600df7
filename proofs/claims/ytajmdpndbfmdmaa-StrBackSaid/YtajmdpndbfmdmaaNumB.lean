/-
  num.Less, bailiffref01.Less and num.Index return what plain functions of the words say. Conditions: the arguments are words of 64 bits.
-/
import Derived.Test.YtajmdpndbfmdmaaNumA
import Derived.Test.YtajmdpndbfmdmaaFlG
namespace Go.Proofs.Ytajmdpndbfmdmaa
open Go Go.RowKit

theorem conv_int {n : Int} (hn : n.natAbs < 9007199254740992) (w : World) : (convert 22 3 (.float .f64 (Fl.W n))).run Try.prog w = .ok (.int .i64 n) w :=
  run_convert_float_int w 22 3 .f64 .i64 (Fl.W n) n (by rw [Try.underlying22]; rfl) Try.underlying3 (Fl.toIntVal_W hn)
theorem conv_int64 {n : Int} (hn : n.natAbs < 9007199254740992) (w : World) : (convert 22 2 (.float .f64 (Fl.W n))).run Try.prog w = .ok (.int .i64 n) w :=
  run_convert_float_int w 22 2 .f64 .i64 (Fl.W n) n (by rw [Try.underlying22]; rfl) Try.underlying2 (Fl.toIntVal_W hn)

/-- num.Less. -/
theorem less_any (x y : Nat) (w : World) (hx : x < 18446744073709551616) (hy : y < 18446744073709551616) :
    Calls Try.prog 20 #[.float .f64 x, .float .f64 y] w fun e w' => e = .returned (.int .i64 (Fl.lessS x y)) ∧ w = w' := by
  have h1 := Fl.ord_neq hx hx
  have h2 := Fl.ord_neq hy hy
  have h3 := Fl.ord_lss hx hy
  rw [Fl.feq_self] at h1 h2
  have hs : Fl.lessS x y = if Fl.isN x = true then -1 else if Fl.isN y = true then -1 else if Fl.flt x y = true then 1 else 0 := by
    unfold Fl.lessS Fl.flt
    cases Fl.isN x <;> cases Fl.isN y <;> simp
  have hs' := Lib.hid hs
  clear hs hx hy
  cases e1 : Fl.isN x <;> cases e2 : Fl.isN y <;> cases e3 : Fl.flt x y
  all_goals
    rw [e1] at h1
    rw [e2] at h2
    rw [e3] at h3
    have E := Lib.hid (And.intro e1 (And.intro e2 e3))
    clear e1 e2 e3
    go_enter Try.func20, Try.ntmps20
    go_wp2
    go_ret
    exact ⟨by rw [hs'.out, E.out.1, E.out.2.1, E.out.2.2]; rfl, rfl⟩

theorem refLess_any (x y : Nat) (w : World) (hx : x < 18446744073709551616) (hy : y < 18446744073709551616) :
    Calls Try.prog 21 #[.float .f64 x, .float .f64 y] w fun e w' => e = .returned (.int .i64 (Fl.lessS x y)) ∧ w = w' := by
  have h1 := Fl.ord_neq hx hx
  have h2 := Fl.ord_neq hy hy
  have h3 := Fl.ord_lss hx hy
  rw [Fl.feq_self] at h1 h2
  have hs : Fl.lessS x y = if Fl.isN x = true then -1 else if Fl.isN y = true then -1 else if Fl.flt x y = true then 1 else 0 := by
    unfold Fl.lessS Fl.flt
    cases Fl.isN x <;> cases Fl.isN y <;> simp
  have hs' := Lib.hid hs
  clear hs hx hy
  cases e1 : Fl.isN x <;> cases e2 : Fl.isN y <;> cases e3 : Fl.flt x y
  all_goals
    rw [e1] at h1
    rw [e2] at h2
    rw [e3] at h3
    have E := Lib.hid (And.intro e1 (And.intro e2 e3))
    clear e1 e2 e3
    go_enter Try.func21, Try.ntmps21
    go_wp2
    go_ret
    exact ⟨by rw [hs'.out, E.out.1, E.out.2.1, E.out.2.2]; rfl, rfl⟩

/-- num.Index. -/
theorem index_any (x : Nat) (w : World) (hx : x < 18446744073709551616) :
    Calls Try.prog 18 #[.float .f64 x] w fun e w' => e = .returned (.tuple #[.int .i64 (Fl.indexS x).1, .bool (Fl.indexS x).2]) ∧ w = w' := by
  have hM := Lib.hid (fun w' => may_any x w' hx)
  have h1 := Fl.ord_neq hx hx
  rw [Fl.feq_self] at h1
  cases Fl.make_of x with
  | nan hN h2 h3 =>
    rw [hN] at h1
    have hs : Fl.indexS x = (0, false) := by unfold Fl.indexS; rw [h2]
    rw [hs]
    clear hN h2 h3 hs hx
    go_enter Try.func18, Try.ntmps18
    go_wp2
    go_ret2
    exact ⟨rfl, rfl⟩
  | bad hN h2 h3 =>
    rw [hN] at h1
    have hs : Fl.indexS x = (0, false) := by unfold Fl.indexS; rw [h2]
    rw [hs]
    rw [h3] at hM
    clear hN h2 h3 hs hx
    go_enter Try.func18, Try.ntmps18
    go_wp2_with (go_at_call 37; refine (hM.out _).mono ?_; rintro e w' ⟨rfl, rfl⟩)
    go_ret2
    exact ⟨rfl, rfl⟩
  | int n hn e h2 h3 h4 =>
    rw [h4] at h1
    rw [h3] at hM
    have hc := conv_int hn
    have g1 := Fl.ord_lss hx (y := 0) (by omega)
    have g2 := Fl.ord_geq hx (y := 4652218415073722368) (by omega)
    rw [e] at g1 g2
    have z1 : Fl.W 0 = 0 := Fl.W_zero
    have z2 : Fl.W 1024 = 4652218415073722368 := by decide +kernel
    have f1 := Fl.flt_W hn (b := 0) (by decide)
    have f2 := Fl.fle_W (a := 1024) (by decide) hn
    rw [z1] at f1
    rw [z2] at f2
    rw [f1] at g1
    rw [f2] at g2
    have hs : Fl.indexS x = if 0 ≤ n ∧ n < 1024 then (n, true) else (0, false) := by unfold Fl.indexS; rw [h2]
    rw [hs]
    clear hs h2 h3 h4 z1 z2 f1 f2 hx
    subst e
    by_cases c1 : n < 0
    · rw [if_neg (by omega)]
      rw [decide_eq_true c1] at g1
      clear c1 g2 hc
      go_enter Try.func18, Try.ntmps18
      go_wp2_with (go_at_call 37; refine (hM.out _).mono ?_; rintro e w' ⟨rfl, rfl⟩)
      go_ret2
      exact ⟨rfl, rfl⟩
    · rw [decide_eq_false c1] at g1
      by_cases c2 : 1024 ≤ n
      · rw [if_neg (by omega)]
        rw [decide_eq_true c2] at g2
        clear c1 c2 hc
        go_enter Try.func18, Try.ntmps18
        go_wp2_with (go_at_call 37; refine (hM.out _).mono ?_; rintro e w' ⟨rfl, rfl⟩)
        go_ret2
        exact ⟨rfl, rfl⟩
      · rw [if_pos (by omega)]
        rw [decide_eq_false c2] at g2
        clear c1 c2
        go_enter Try.func18, Try.ntmps18
        go_wp2_with (go_at_call 37; refine (hM.out _).mono ?_; rintro e w' ⟨rfl, rfl⟩)
        go_ret2
        exact ⟨rfl, rfl⟩
end Go.Proofs.Ytajmdpndbfmdmaa
