/-
  bailiffref01.Same and bailifflaw01.told return true of two words that are one, or both no number; the walk of bailifflaw01.NumBits. Conditions: the arguments are words of 64 bits.
-/
import Derived.Test.YtajmdpndbfmdmaaDoorNumF
import Derived.Test.YtajmdpndbfmdmaaDoorNumD
namespace Go.Proofs.YtajmdpndbfmdmaaDoor
open Go Go.RowKit

/-- Two floats that are one, or both no number. -/
def Alike (x y : Nat) : Prop := x < 18446744073709551616 ∧ y < 18446744073709551616 ∧ (x = y ∨ (Fl.isN x = true ∧ Fl.isN y = true))

theorem same_true (x y : Nat) (w : World) (h : Alike x y) :
    Calls Tryd.prog 98 #[.float .f64 x, .float .f64 y] w fun e w' => e = .returned (.bool true) ∧ w = w' := by
  obtain ⟨hx, hy, h⟩ := h
  have h1 := Fl.ord_neq hx hx
  have h2 := Fl.ord_neq hy hy
  rw [Fl.feq_self] at h1 h2
  cases hN : Fl.isN x with
  | true =>
    have hM : Fl.isN y = true := by
      rcases h with rfl | h
      · exact hN
      · exact h.2
    rw [hN] at h1
    rw [hM] at h2
    clear hN hM h hx hy
    go_enter Tryd.func98, Tryd.ntmps98
    go_wp2
    go_ret
    exact ⟨rfl, rfl⟩
  | false =>
    obtain rfl : x = y := by
      rcases h with h | h
      · exact h
      · rw [hN] at h; cases h.1
    have h3 := Fl.ord_eql hx hx
    rw [Fl.feq_self] at h3
    have h4 := Fl.ord_neq hx (y := 0) (by omega)
    have k4 : Fl.feq x 0 = decide (Fl.key x = 0) := by unfold Fl.feq; rw [hN, Fl.isN_zero, Fl.key_zero']; rfl
    rw [k4] at h4
    rw [hN] at h1 h2 h3
    have hz := Fl.key_zero hx
    by_cases c : Fl.key x = 0
    · rw [decide_eq_true c] at h4
      rcases hz.1 c with rfl | rfl
      · have hd := inf_of_zero
        have h5 : (FloatKind.f64.format.order 9218868437227405312 9218868437227405312 == some .eq) = true := by decide +kernel
        clear hz c k4 hN h hx hy
        go_enter Tryd.func98, Tryd.ntmps98
        go_wp2
        go_ret
        exact ⟨rfl, rfl⟩
      · have hd := inf_of_nzero
        have h5 : (FloatKind.f64.format.order 18442240474082181120 18442240474082181120 == some .eq) = true := by decide +kernel
        clear hz c k4 hN h hx hy
        go_enter Tryd.func98, Tryd.ntmps98
        go_wp2
        go_ret
        exact ⟨rfl, rfl⟩
    · rw [decide_eq_false c] at h4
      clear hz c k4 hN h hx hy
      go_enter Tryd.func98, Tryd.ntmps98
      go_wp2
      go_ret
      exact ⟨rfl, rfl⟩

theorem told_true (x y : Nat) (e : Int) (w : World) (h : Alike x y) :
    Calls Tryd.prog 41 #[.float .f64 x, .int .i64 e, .float .f64 y, .int .i64 e] w fun e w' => e = .returned (.bool true) ∧ w = w' := by
  have hS := Lib.hid (fun w' => same_true x y w' h)
  clear h
  go_enter Tryd.func41, Tryd.ntmps41
  go_wp2_with (go_at_call 98; refine (hS.out _).mono ?_; rintro e w' ⟨rfl, rfl⟩)
  go_ret
  exact ⟨by simp, rfl⟩

theorem W_lt_any (n : Int) : Fl.W n < 18446744073709551616 := Ieee.double.nearest_lt (decide (n < 0)) n.natAbs 0

theorem bitsS_lt (o : Int) (x y : Nat) : (bitsS o x y).1 < 18446744073709551616 := by
  unfold bitsS
  split
  · cases bitsV o (Fl.intS x) (Fl.intS y) with
    | none => exact (by decide : (0 : Nat) < 18446744073709551616)
    | some n => exact W_lt_any n
  · exact (by decide : (0 : Nat) < 18446744073709551616)

end Go.Proofs.YtajmdpndbfmdmaaDoor
