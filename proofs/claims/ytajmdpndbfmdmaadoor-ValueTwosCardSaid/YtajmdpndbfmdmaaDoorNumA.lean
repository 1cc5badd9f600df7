/-
  math.Trunc, Abs, Signbit and num.May return what plain functions of the word say. Conditions: the argument is a word of 64 bits.
-/
import Derived.Test.YtajmdpndbfmdmaaDoorProg
import Derived.Test.YtajmdpndbfmdmaaDoorFlF
import Derived.WalkKit
import Derived.WalkLawsBesides
import Derived.WalkSpells
import Derived.Laws.FloatArith
import Derived.Laws.Externs
import Derived.Laws.BitsAllLaws
import Derived.Deep.QuietTactic
import Derived.BigQuiet
import Derived.Lib.Hide
namespace Go.Proofs.YtajmdpndbfmdmaaDoor
open Go Go.RowKit

theorem ext_bits (x : Nat) (w : World) : (callFunc 139 #[.float .f64 x]).run Tryd.prog w = .ok (.value (.int .u64 x)) w := by
  rw [run_callFunc_extern Tryd.func139 (by kernel_rfl) (by kernel_rfl) (by kernel_rfl) (e := Extern.MathFloatBits.float64bits) (by kernel_rfl)]; rfl

theorem ext_frombits (n : Int) (w : World) : (callFunc 135 #[.int .u64 n]).run Tryd.prog w = .ok (.value (.float .f64 n.toNat)) w := by
  rw [run_callFunc_extern Tryd.func135 (by kernel_rfl) (by kernel_rfl) (by kernel_rfl) (e := Extern.MathFloatBits.float64frombits) (by kernel_rfl)]; rfl

open Fl (tr)

theorem ext_trunc (x : Nat) (w : World) (h : (Ieee.double.read x).isNaN = false) : (callFunc 137 #[.float .f64 x]).run Tryd.prog w = .ok (.value (.float .f64 (tr x))) w := by
  rw [run_callFunc_extern Tryd.func137 (by kernel_rfl) (by kernel_rfl) (by kernel_rfl) (e := Extern.MathFloor.toIntegral "math.archTrunc" .zero) (by kernel_rfl)]
  have e : (Extern.MathFloor.toIntegral "math.archTrunc" .zero #[.float .f64 x]).run Tryd.prog w = .ok (.float .f64 (tr x)) w := by
    change (Sem.run Tryd.prog (match Ieee.double.read x with
      | .nan s t => if Ieee.double.quiet t = t then pure (Value.float .f64 x) else do
          let kept ← choose (.extern "math.Floor,Ceil,Trunc,RoundToEven.signallingNaN kept" 2)
          pure (.float .f64 (if kept == 1 then x else Ieee.double.write (.nan s (Ieee.double.quiet t))))
      | d => pure (.float .f64 (Ieee.double.write (d.integral .zero)))) w) = _
    unfold Fl.tr
    cases hd : Ieee.double.read x with
    | nan s t => rw [hd] at h; cases h
    | number s m p => rfl
    | infinity s => rfl
  rw [e]; rfl

theorem trunc_any (x : Nat) (w : World) (h : (Ieee.double.read x).isNaN = false) :
    Calls Tryd.prog 102 #[.float .f64 x] w fun e w' => e = .returned (.float .f64 (tr x)) ∧ w = w' := by
  have hx := fun w' => ext_trunc x w' h
  clear h
  go_enter Tryd.func102, Tryd.ntmps102
  go_wp2
  go_ret
  exact ⟨rfl, rfl⟩

theorem abs_any (x : Nat) (w : World) (h : x < 18446744073709551616) :
    Calls Tryd.prog 103 #[.float .f64 x] w fun e w' => e = .returned (.float .f64 (x % 9223372036854775808)) ∧ w = w' := by
  have hb := ext_bits x
  have hf := ext_frombits
  have e : ((bits BinOp.andNot IntKind.u64 (x : Int) 9223372036854775808).toNat) = x % 9223372036854775808 := by
    rw [show (9223372036854775808 : Int) = ((9223372036854775808 : Nat) : Int) from rfl, u64_andNot_nat x _ h (by omega), Int.toNat_natCast]
    exact Nat.and_two_pow_sub_one_eq_mod x 63
  have he := Lib.hid e
  clear e h
  go_enter Tryd.func103, Tryd.ntmps103
  go_wp2
  go_ret
  exact ⟨by rw [he.out]; rfl, rfl⟩

theorem signbit_any (x : Nat) (w : World) (h : x < 18446744073709551616) :
    Calls Tryd.prog 104 #[.float .f64 x] w fun e w' => e = .returned (.bool (decide (9223372036854775808 ≤ x))) ∧ w = w' := by
  have hb := ext_bits x
  have e : decide (wrap64 (x : Int) < 0) = decide (9223372036854775808 ≤ x) := by
    rw [decide_eq_decide]; unfold wrap64; omega
  have he := Lib.hid e
  clear e
  go_enter Tryd.func104, Tryd.ntmps104
  go_wp2
  go_ret
  exact ⟨by rw [← he.out]; rfl, rfl⟩

theorem may_any (x : Nat) (w : World) (h : x < 18446744073709551616) :
    Calls Tryd.prog 45 #[.float .f64 x] w fun e w' => e = .returned (.bool (Fl.may x)) ∧ w = w' := by
  have hp := Fl.may_parts h
  have h1 := Fl.ord_neq h h
  have h2 : x % 9223372036854775808 < 18446744073709551616 := by omega
  have h3 := Fl.ord_leq h2 (y := 4845873199050653695) (by omega)
  have h4 := Fl.ord_neq h (y := 0) (by omega)
  have hA := Lib.hid (fun w' => abs_any x w' h)
  have hS := Lib.hid (fun w' => signbit_any x w' h)
  rw [Fl.feq_self] at h1
  cases hN : Fl.isN x with
  | true =>
    rw [hN] at hp h1
    have hp' := Lib.hid hp
    clear hp hN h2 h3 h4 h hA hS
    go_enter Tryd.func45, Tryd.ntmps45
    go_wp2
    go_ret
    exact ⟨by rw [hp'.out]; rfl, rfl⟩
  | false =>
    have hd : (Ieee.double.read x).isNaN = false := by rw [Fl.isN_read h, hN]
    have htl : tr x < 18446744073709551616 := Ieee.double.write_lt _
    have h5 := Fl.ord_eql htl h
    have hT := Lib.hid (fun w' => trunc_any x w' hd)
    rw [hN] at hp h1
    clear hd hN h2 h htl
    generalize Fl.may x = m at hp ⊢
    cases e5 : Fl.feq (tr x) x with
    | false =>
      rw [e5] at hp h5; have hp' := Lib.hid hp
      clear hp h3 h4 e5
      go_enter Tryd.func45, Tryd.ntmps45
      go_wp2_with (go_at_call 102; refine (hT.out _).mono ?_; rintro e w' ⟨rfl, rfl⟩)
      go_ret
      exact ⟨by rw [hp'.out]; rfl, rfl⟩
    | true =>
      cases e3 : Fl.fle (x % 9223372036854775808) 4845873199050653695 with
      | false =>
        rw [e3] at h3
        rw [e5, e3] at hp; rw [e5] at h5; have hp' := Lib.hid hp
        clear hp h4 e5 e3
        go_enter Tryd.func45, Tryd.ntmps45
        go_wp2_with (first | (go_at_call 102; refine (hT.out _).mono ?_; rintro e w' ⟨rfl, rfl⟩) | (go_at_call 103; refine (hA.out _).mono ?_; rintro e w' ⟨rfl, rfl⟩))
        go_ret
        exact ⟨by rw [hp'.out]; rfl, rfl⟩
      | true =>
        rw [e3] at h3
        cases e4 : Fl.feq x 0 with
        | false =>
          rw [e4] at h4
          rw [e5, e3, e4] at hp; rw [e5] at h5; have hp' := Lib.hid hp
          clear hp e5 e3 e4
          go_enter Tryd.func45, Tryd.ntmps45
          go_wp2_with (first | (go_at_call 102; refine (hT.out _).mono ?_; rintro e w' ⟨rfl, rfl⟩) | (go_at_call 103; refine (hA.out _).mono ?_; rintro e w' ⟨rfl, rfl⟩))
          go_ret
          exact ⟨by rw [hp'.out]; rfl, rfl⟩
        | true =>
          rw [e4] at h4
          rw [e5, e3, e4] at hp; rw [e5] at h5; have hp' := Lib.hid hp
          clear hp e5 e3 e4
          go_enter Tryd.func45, Tryd.ntmps45
          go_wp2_with (first | (go_at_call 102; refine (hT.out _).mono ?_; rintro e w' ⟨rfl, rfl⟩) | (go_at_call 103; refine (hA.out _).mono ?_; rintro e w' ⟨rfl, rfl⟩) | (go_at_call 104; refine (hS.out _).mono ?_; rintro e w' ⟨rfl, rfl⟩))
          go_ret
          exact ⟨by rw [hp'.out]; rfl, rfl⟩
end Go.Proofs.YtajmdpndbfmdmaaDoor
