/-
  The walk of bailifflaw01.NumRow: it returns true. Conditions: the arguments are words of 64 bits.
-/
import Derived.Test.YtajmdpndbfmdmaaNumC
import Derived.Below
namespace Go.Proofs.Ytajmdpndbfmdmaa
open Go Go.RowKit

theorem float_lt {a : Nat} (h : (Lit.float .f64 a).wf = true) : a < 18446744073709551616 := by
  simp only [Lit.wf, decide_eq_true_eq] at h; exact h

theorem numRow_walk (x y : Nat) (w0 : (Lit.float .f64 x).wf = true) (w1 : (Lit.float .f64 y).wf = true) (w : World) :
    Calls Try.prog 4 #[.float .f64 x, .float .f64 y] w fun e w' => e = .returned (.bool true) ∧ Below w.heap.size w w' := by
  have hx := float_lt w0
  have hy := float_lt w1
  have c1 := Lib.hid (fun w' => index_any x w' hx)
  have c2 := Lib.hid (fun w' => refIndex_any x w' hx)
  have c3 := Lib.hid (fun w' => less_any x y w' hx hy)
  have c4 := Lib.hid (fun w' => refLess_any x y w' hx hy)
  generalize Fl.indexS x = q at c1 c2
  obtain ⟨n, b⟩ := q
  generalize Fl.lessS x y = l at c3 c4
  clear w0 w1 hx hy
  have hb : (b == b) = true := by simp
  go_enter Try.func4, Try.ntmps4
  go_wp2_with (first | (go_at_call 18; refine (c1.out _).mono ?_; rintro e w' ⟨rfl, rfl⟩) | (go_at_call 19; refine (c2.out _).mono ?_; rintro e w' ⟨rfl, rfl⟩) | (go_at_call 20; refine (c3.out _).mono ?_; rintro e w' ⟨rfl, rfl⟩) | (go_at_call 21; refine (c4.out _).mono ?_; rintro e w' ⟨rfl, rfl⟩))
  go_ret
  exact ⟨by simp, Below.refl _ _⟩
end Go.Proofs.Ytajmdpndbfmdmaa
