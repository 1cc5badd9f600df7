/-
  bailifflaw01.alive and none. Conditions: the arguments are words of 64 bits.
-/
import Derived.Test.YtajmdpndbfmdmaaDoorNuB
import Derived.Deep.DeepCutAuto
namespace Go.Proofs.YtajmdpndbfmdmaaDoor
open Go Go.RowKit

theorem two_W {f : Int → Int → Option Int × Int} {a b : Int} (ha : a.natAbs < 9007199254740992) (hb : b.natAbs < 9007199254740992) : Fl.two f (Fl.W a) (Fl.W b) = f a b :=
  Fl.two_int (by rw [Fl.may_W, decide_eq_true ha]) (by rw [Fl.may_W, decide_eq_true hb]) (Fl.num?_W ha) (Fl.num?_W hb)

theorem alive_true (w : World) :
    Calls Tryd.prog 44 #[] w fun e w' => e = .returned (.bool true) ∧ Below w.heap.size w w' := by
  have c1 := fun w' => Add_any 4611686018427387904 4613937818241073152 w' (by decide) (by decide)
  have c2 := fun w' => Add_any 4845873199050653695 4607182418800017408 w' (by decide) (by decide)
  have e1 : Fl.two Fl.addS 4611686018427387904 4613937818241073152 = (some 5, 0) := by
    rw [show (4611686018427387904 : Nat) = Fl.W 2 from by decide +kernel, show (4613937818241073152 : Nat) = Fl.W 3 from by decide +kernel, two_W (by decide) (by decide)]; decide
  have e2 : Fl.two Fl.addS 4845873199050653695 4607182418800017408 = (some 0, 10) := by
    rw [show (4845873199050653695 : Nat) = Fl.W 9007199254740991 from by decide +kernel, show (4607182418800017408 : Nat) = Fl.W 1 from by decide +kernel, two_W (by decide) (by decide)]; decide
  rw [e1] at c1
  rw [e2] at c2
  have d1 := Lib.hid c1
  have d2 := Lib.hid c2
  have f1 : (FloatKind.f64.format.order 4617315517961601024 4617315517961601024 == some .eq) = true := by decide +kernel
  have w5 : Fl.W 5 = 4617315517961601024 := by decide +kernel
  have w5' := Lib.hid w5
  clear c1 c2 e1 e2 w5
  go_enter Tryd.func44, Tryd.ntmps44
  go_wp2_with fail
  refine (d1.out _).mono ?_; rintro e w1 ⟨z, rfl, hz, b1⟩
  obtain ⟨rfl, _⟩ := hz
  rw [w5'.out]
  have B1 := Lib.hid b1
  clear b1
  go_wp2_with fail
  refine (d2.out _).mono ?_; rintro e w2 ⟨z, rfl, hz, b2⟩
  have B2 := Lib.hid b2
  clear b2 hz
  go_wp2_with fail
  go_ret
  have s1 := B1.out.size
  exact ⟨rfl, B1.out.trans (B2.out.mono (by omega))⟩

theorem none_any (x : Nat) (w : World) (hx : x < 18446744073709551616) :
    Calls Tryd.prog 46 #[.float .f64 x] w fun e w' => e = .returned (.bool (Fl.isN x)) ∧ w = w' := by
  have h1 := Fl.ord_neq hx hx
  rw [Fl.feq_self] at h1
  cases e : Fl.isN x <;> rw [e] at h1 <;> clear e hx
  all_goals
    go_enter Tryd.func46, Tryd.ntmps46
    go_wp2
    go_ret
    exact ⟨rfl, rfl⟩

end Go.Proofs.YtajmdpndbfmdmaaDoor
