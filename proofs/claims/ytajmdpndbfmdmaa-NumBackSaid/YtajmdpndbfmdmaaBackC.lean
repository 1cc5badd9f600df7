/-
  The walk of bailifflaw01.NumBack over any two floats: it returns true. Conditions: the arguments are words of 64 bits.
-/
import Derived.Test.YtajmdpndbfmdmaaBackB
namespace Go.Proofs.Ytajmdpndbfmdmaa
open Go Go.RowKit

set_option maxRecDepth 100000 in
theorem numBack_walk (x y : Nat) (w0 : (Lit.float .f64 x).wf = true) (w1 : (Lit.float .f64 y).wf = true) (w : World) :
    Calls Try.prog 9 #[.float .f64 x, .float .f64 y] w fun e w' => e = .returned (.bool true) ∧ Below w.heap.size w w' := by
  have hx := float_lt w0
  have hy := float_lt w1
  have q1 := Lib.hid (alive_true)
  have q2 := Lib.hid (fun w' => may_any x w' hx)
  have q3 := Lib.hid (fun w' => may_any y w' hy)
  have q4 := Lib.hid (fun w' => none_any x w' hx)
  have q5 := Lib.hid (fun w' => none_any y w' hy)
  cases m1 : Fl.may x with
  | false =>
    rw [m1] at q2
    clear m1 w0 w1 hx hy
    go_enter Try.func9, Try.ntmps9
    go_wp2_with fail
    refine (q1.out _).mono ?_; rintro e w1 ⟨rfl, b1⟩
    have B1 := Lib.hid b1
    clear b1
    go_wp2_with fail
    refine (q2.out _).mono ?_; rintro e w' ⟨rfl, rfl⟩
    go_wp2_with fail
    go_ret
    exact ⟨rfl, B1.out⟩
  | true =>
    rw [m1] at q2
    cases m2 : Fl.may y with
    | false =>
      rw [m2] at q3
      clear m1 m2 w0 w1 hx hy
      go_enter Try.func9, Try.ntmps9
      go_wp2_with fail
      refine (q1.out _).mono ?_; rintro e w1 ⟨rfl, b1⟩
      have B1 := Lib.hid b1
      clear b1
      go_wp2_with fail
      refine (q2.out _).mono ?_; rintro e w' ⟨rfl, rfl⟩
      go_wp2_with fail
      refine (q3.out _).mono ?_; rintro e w' ⟨rfl, rfl⟩
      go_wp2_with fail
      go_ret
      exact ⟨rfl, B1.out⟩
    | true =>
      rw [m2] at q3
      rcases may_cases m1 with ⟨n1, _⟩ | ⟨a, ha, ea, _⟩
      · rw [n1] at q4
        clear m1 m2 w0 w1 hx hy n1
        go_enter Try.func9, Try.ntmps9
        go_wp2_with fail
        refine (q1.out _).mono ?_; rintro e w1 ⟨rfl, b1⟩
        have B1 := Lib.hid b1
        clear b1
        go_wp2_with fail
        refine (q2.out _).mono ?_; rintro e w' ⟨rfl, rfl⟩
        go_wp2_with fail
        refine (q3.out _).mono ?_; rintro e w' ⟨rfl, rfl⟩
        go_wp2_with fail
        refine (q4.out _).mono ?_; rintro e w' ⟨rfl, rfl⟩
        go_wp2_with fail
        go_ret
        exact ⟨rfl, B1.out⟩
      · rcases may_cases m2 with ⟨n2, _⟩ | ⟨b, hb, eb, _⟩
        · have n1 : Fl.isN x = false := by rw [ea]; exact Fl.isN_W ha
          rw [n1] at q4
          rw [n2] at q5
          clear m1 m2 w0 w1 hx hy n1 n2 ea ha
          go_enter Try.func9, Try.ntmps9
          go_wp2_with fail
          refine (q1.out _).mono ?_; rintro e w1 ⟨rfl, b1⟩
          have B1 := Lib.hid b1
          clear b1
          go_wp2_with fail
          refine (q2.out _).mono ?_; rintro e w' ⟨rfl, rfl⟩
          go_wp2_with fail
          refine (q3.out _).mono ?_; rintro e w' ⟨rfl, rfl⟩
          go_wp2_with fail
          refine (q4.out _).mono ?_; rintro e w' ⟨rfl, rfl⟩
          go_wp2_with fail
          refine (q5.out _).mono ?_; rintro e w' ⟨rfl, rfl⟩
          go_wp2_with fail
          go_ret
          exact ⟨rfl, B1.out⟩
        · rw [ea, eb]
          exact numBack_ints a b ha hb w
end Go.Proofs.Ytajmdpndbfmdmaa
