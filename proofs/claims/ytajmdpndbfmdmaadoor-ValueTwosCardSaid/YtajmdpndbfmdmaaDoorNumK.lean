/-
  The document's Add, Sub, Mul, Div, Rem and Neg of numbers return what the whole numbers come to. Conditions: the arguments are words of 64 bits.
-/
import Derived.Test.YtajmdpndbfmdmaaDoorNumJ
namespace Go.Proofs.YtajmdpndbfmdmaaDoor
open Go Go.RowKit

/-- bailiffref01.NaN: a NaN that the tape draws. -/
theorem refNaN_any (w : World) :
    Calls Tryd.prog 97 #[] w fun r w' => ∃ z, r = .returned (.float .f64 z) ∧ Fl.Fits z none ∧ w.drew = w' := by
  obtain ⟨r, hr1, hr2, hrun⟩ := Fl.run_nan (P := Tryd.prog) .quo 22 0 0 (.inr (.inr (.inr rfl))) Fl.div_none_zero w
  have hr := Lib.hid (And.intro hr1 hr2)
  clear hr1 hr2
  go_enter Tryd.func97, Tryd.ntmps97
  go_wp2
  go_ret
  exact ⟨r, rfl, hr.out, rfl⟩

theorem bad_of {x y : Nat} (h : ¬ (Fl.may x = true ∧ Fl.may y = true)) : Fl.may x = false ∨ Fl.may y = false := by
  cases e1 : Fl.may x <;> cases e2 : Fl.may y <;> simp_all

/-- The three ways of two floats. -/
inductive Ways (f : Int → Int → Option Int × Int) (x y : Nat) : Prop where
  | bad (h : Fl.two f x y = (some 0, 2)) (v : twoV x y = .tuple #[.int .i64 0, .int .i64 0, .bool false, .int .i64 2])
  | nan (h : Fl.two f x y = (none, 0)) (a b : Int) (v : twoV x y = .tuple #[.int .i64 a, .int .i64 b, .bool true, .int .i64 0])
  | int (a b : Int) (ha : a.natAbs < 9007199254740992) (hb : b.natAbs < 9007199254740992) (h : Fl.two f x y = f a b) (v : twoV x y = .tuple #[.int .i64 a, .int .i64 b, .bool false, .int .i64 0])

theorem ways_of (f : Int → Int → Option Int × Int) (x y : Nat) : Ways f x y := by
  by_cases h : Fl.may x = true ∧ Fl.may y = true
  · have hv : twoV x y = .tuple #[.int .i64 (Fl.wholeS x).1, .int .i64 (Fl.wholeS y).1, .bool (!(Fl.wholeS x).2 || !(Fl.wholeS y).2), .int .i64 0] := by unfold twoV; rw [if_pos h]
    rcases may_cases h.1 with ⟨n1, q1⟩ | ⟨a, ha, ea, q1⟩
    · refine .nan (Fl.two_nan h.1 h.2 (.inl q1)) _ _ (by rw [hv]; unfold Fl.wholeS Fl.wholeO; rw [q1]; rfl)
    · rcases may_cases h.2 with ⟨n2, q2⟩ | ⟨b, hb, eb, q2⟩
      · refine .nan (Fl.two_nan h.1 h.2 (.inr q2)) _ _ (by rw [hv]; unfold Fl.wholeS Fl.wholeO; rw [q1, q2]; rfl)
      · exact .int a b ha hb (Fl.two_int h.1 h.2 q1 q2) (by rw [hv]; unfold Fl.wholeS Fl.wholeO; rw [q1, q2]; rfl)
  · exact .bad (Fl.two_bad (bad_of h)) (by unfold twoV; rw [if_neg h])

end Go.Proofs.YtajmdpndbfmdmaaDoor
