/-
  math.Trunc, Abs, Signbit and num.May return what plain functions of the word say. Conditions: the argument is a word of 64 bits.
  num.Less, bailiffref01.Less and num.Index return what plain functions of the words say. Conditions: the arguments are words of 64 bits.
  bailiffref01.whole, Index and May return what plain functions of the word say. Conditions: the argument is a word of 64 bits.
  The walk of bailifflaw01.NumRow: it returns true. Conditions: the arguments are words of 64 bits.
  num.Int and bailiffref01.Int return the 32 bits of a whole number, or 0. Conditions: the argument is a word of 64 bits.
  bailiffref01.Bits returns what the plain function of the words says. Conditions: the arguments are words of 64 bits.
  bailiffref01.Same and bailifflaw01.told return true of two words that are one, or both no number; the walk of bailifflaw01.NumBits. Conditions: the arguments are words of 64 bits.
-/
import Derived.Test.YtajmdpndbfmdmaaDoorProg
import Derived.Test.YtajmdpndbfmdmaaDoorFl
import Derived.WalkKit
import Derived.WalkLawsBesides
import Derived.WalkSpells
import Derived.Laws.FloatArith
import Derived.Laws.Externs
import Derived.Laws.BitsAllLaws
import Derived.Deep.QuietTactic
import Derived.BigQuiet
import Derived.Lib.Hide
import Derived.Below
namespace Go.Proofs.YtajmdpndbfmdmaaDoor
open Go Go.RowKit

theorem ext_bits (x : Nat) (w : World) : (callFunc 139 #[.float .f64 x]).run Tryd.prog w = .ok (.value (.int .u64 x)) w := by
  rw [run_callFunc_extern Tryd.func139 (by kernel_rfl) (by kernel_rfl) (by kernel_rfl) (e := Extern.MathFloatBits.float64bits) (by kernel_rfl)]; rfl

theorem ext_frombits (n : Int) (w : World) : (callFunc 135 #[.int .u64 n]).run Tryd.prog w = .ok (.value (.float .f64 n.toNat)) w := by
  rw [run_callFunc_extern Tryd.func135 (by kernel_rfl) (by kernel_rfl) (by kernel_rfl) (e := Extern.MathFloatBits.float64frombits) (by kernel_rfl)]; rfl

open Fl (tr)

theorem ext_trunc (x : Nat) (w : World) (h : (Ieee.double.read x).isNaN = false) : (callFunc 137 #[.float .f64 x]).run Tryd.prog w = .ok (.value (.float .f64 (tr x))) w := by
  rw [run_callFunc_extern Tryd.func137 (by kernel_rfl) (by kernel_rfl) (by kernel_rfl) (e := Extern.MathFloor.toIntegral "math.archTrunc" .zero) (by kernel_rfl)]
  have e : (Extern.MathFloor.toIntegral "math.archTrunc" .zero #[.float .f64 x]).run Tryd.prog w = .ok (.float .f64 (tr x)) w := by
    change (Sem.run Tryd.prog (match Ieee.double.read x with
      | .nan s t => if Ieee.double.quiet t = t then pure (Value.float .f64 x) else do
          let kept ← choose (.extern "math.Floor,Ceil,Trunc,RoundToEven.signallingNaN kept" 2)
          pure (.float .f64 (if kept == 1 then x else Ieee.double.write (.nan s (Ieee.double.quiet t))))
      | d => pure (.float .f64 (Ieee.double.write (d.integral .zero)))) w) = _
    unfold Fl.tr
    cases hd : Ieee.double.read x with
    | nan s t => rw [hd] at h; cases h
    | number s m p => rfl
    | infinity s => rfl
  rw [e]; rfl

theorem trunc_any (x : Nat) (w : World) (h : (Ieee.double.read x).isNaN = false) :
    Calls Tryd.prog 102 #[.float .f64 x] w fun e w' => e = .returned (.float .f64 (tr x)) ∧ w = w' := by
  have hx := fun w' => ext_trunc x w' h
  clear h
  go_enter Tryd.func102, Tryd.ntmps102
  go_wp2
  go_ret
  exact ⟨rfl, rfl⟩

theorem abs_any (x : Nat) (w : World) (h : x < 18446744073709551616) :
    Calls Tryd.prog 103 #[.float .f64 x] w fun e w' => e = .returned (.float .f64 (x % 9223372036854775808)) ∧ w = w' := by
  have hb := ext_bits x
  have hf := ext_frombits
  have e : ((bits BinOp.andNot IntKind.u64 (x : Int) 9223372036854775808).toNat) = x % 9223372036854775808 := by
    rw [show (9223372036854775808 : Int) = ((9223372036854775808 : Nat) : Int) from rfl, u64_andNot_nat x _ h (by omega), Int.toNat_natCast]
    exact Nat.and_two_pow_sub_one_eq_mod x 63
  have he := Lib.hid e
  clear e h
  go_enter Tryd.func103, Tryd.ntmps103
  go_wp2
  go_ret
  exact ⟨by rw [he.out]; rfl, rfl⟩

theorem signbit_any (x : Nat) (w : World) (h : x < 18446744073709551616) :
    Calls Tryd.prog 104 #[.float .f64 x] w fun e w' => e = .returned (.bool (decide (9223372036854775808 ≤ x))) ∧ w = w' := by
  have hb := ext_bits x
  have e : decide (wrap64 (x : Int) < 0) = decide (9223372036854775808 ≤ x) := by
    rw [decide_eq_decide]; unfold wrap64; omega
  have he := Lib.hid e
  clear e
  go_enter Tryd.func104, Tryd.ntmps104
  go_wp2
  go_ret
  exact ⟨by rw [← he.out]; rfl, rfl⟩

theorem may_any (x : Nat) (w : World) (h : x < 18446744073709551616) :
    Calls Tryd.prog 45 #[.float .f64 x] w fun e w' => e = .returned (.bool (Fl.may x)) ∧ w = w' := by
  have hp := Fl.may_parts h
  have h1 := Fl.ord_neq h h
  have h2 : x % 9223372036854775808 < 18446744073709551616 := by omega
  have h3 := Fl.ord_leq h2 (y := 4845873199050653695) (by omega)
  have h4 := Fl.ord_neq h (y := 0) (by omega)
  have hA := Lib.hid (fun w' => abs_any x w' h)
  have hS := Lib.hid (fun w' => signbit_any x w' h)
  rw [Fl.feq_self] at h1
  cases hN : Fl.isN x with
  | true =>
    rw [hN] at hp h1
    have hp' := Lib.hid hp
    clear hp hN h2 h3 h4 h hA hS
    go_enter Tryd.func45, Tryd.ntmps45
    go_wp2
    go_ret
    exact ⟨by rw [hp'.out]; rfl, rfl⟩
  | false =>
    have hd : (Ieee.double.read x).isNaN = false := by rw [Fl.isN_read h, hN]
    have htl : tr x < 18446744073709551616 := Ieee.double.write_lt _
    have h5 := Fl.ord_eql htl h
    have hT := Lib.hid (fun w' => trunc_any x w' hd)
    rw [hN] at hp h1
    clear hd hN h2 h htl
    generalize Fl.may x = m at hp ⊢
    cases e5 : Fl.feq (tr x) x with
    | false =>
      rw [e5] at hp h5; have hp' := Lib.hid hp
      clear hp h3 h4 e5
      go_enter Tryd.func45, Tryd.ntmps45
      go_wp2_with (go_at_call 102; refine (hT.out _).mono ?_; rintro e w' ⟨rfl, rfl⟩)
      go_ret
      exact ⟨by rw [hp'.out]; rfl, rfl⟩
    | true =>
      cases e3 : Fl.fle (x % 9223372036854775808) 4845873199050653695 with
      | false =>
        rw [e3] at h3
        rw [e5, e3] at hp; rw [e5] at h5; have hp' := Lib.hid hp
        clear hp h4 e5 e3
        go_enter Tryd.func45, Tryd.ntmps45
        go_wp2_with (first | (go_at_call 102; refine (hT.out _).mono ?_; rintro e w' ⟨rfl, rfl⟩) | (go_at_call 103; refine (hA.out _).mono ?_; rintro e w' ⟨rfl, rfl⟩))
        go_ret
        exact ⟨by rw [hp'.out]; rfl, rfl⟩
      | true =>
        rw [e3] at h3
        cases e4 : Fl.feq x 0 with
        | false =>
          rw [e4] at h4
          rw [e5, e3, e4] at hp; rw [e5] at h5; have hp' := Lib.hid hp
          clear hp e5 e3 e4
          go_enter Tryd.func45, Tryd.ntmps45
          go_wp2_with (first | (go_at_call 102; refine (hT.out _).mono ?_; rintro e w' ⟨rfl, rfl⟩) | (go_at_call 103; refine (hA.out _).mono ?_; rintro e w' ⟨rfl, rfl⟩))
          go_ret
          exact ⟨by rw [hp'.out]; rfl, rfl⟩
        | true =>
          rw [e4] at h4
          rw [e5, e3, e4] at hp; rw [e5] at h5; have hp' := Lib.hid hp
          clear hp e5 e3 e4
          go_enter Tryd.func45, Tryd.ntmps45
          go_wp2_with (first | (go_at_call 102; refine (hT.out _).mono ?_; rintro e w' ⟨rfl, rfl⟩) | (go_at_call 103; refine (hA.out _).mono ?_; rintro e w' ⟨rfl, rfl⟩) | (go_at_call 104; refine (hS.out _).mono ?_; rintro e w' ⟨rfl, rfl⟩))
          go_ret
          exact ⟨by rw [hp'.out]; rfl, rfl⟩
end Go.Proofs.YtajmdpndbfmdmaaDoor
namespace Go.Proofs.YtajmdpndbfmdmaaDoor
open Go Go.RowKit

theorem conv_int {n : Int} (hn : n.natAbs < 9007199254740992) (w : World) : (convert 22 3 (.float .f64 (Fl.W n))).run Tryd.prog w = .ok (.int .i64 n) w :=
  run_convert_float_int w 22 3 .f64 .i64 (Fl.W n) n (by rw [Tryd.underlying22]; rfl) Tryd.underlying3 (Fl.toIntVal_W hn)
theorem conv_int64 {n : Int} (hn : n.natAbs < 9007199254740992) (w : World) : (convert 22 2 (.float .f64 (Fl.W n))).run Tryd.prog w = .ok (.int .i64 n) w :=
  run_convert_float_int w 22 2 .f64 .i64 (Fl.W n) n (by rw [Tryd.underlying22]; rfl) Tryd.underlying2 (Fl.toIntVal_W hn)

end Go.Proofs.YtajmdpndbfmdmaaDoor
namespace Go.Proofs.YtajmdpndbfmdmaaDoor
open Go Go.RowKit

theorem inf_of_zero (w : World) : (binOp .quo 22 (.float .f64 4607182418800017408) (.float .f64 0)).run Tryd.prog w = .ok (.float .f64 9218868437227405312) w :=
  run_float_arith w .quo 22 .f64 _ _ _ (by decide +kernel)
theorem inf_of_nzero (w : World) : (binOp .quo 22 (.float .f64 4607182418800017408) (.float .f64 9223372036854775808)).run Tryd.prog w = .ok (.float .f64 18442240474082181120) w :=
  run_float_arith w .quo 22 .f64 _ _ _ (by decide +kernel)

theorem toIntVal_of {x : Nat} {n : Int} (h : (Ieee.double.read x).toInt .zero = some n) (hn : n.natAbs < 9007199254740992) : floatToIntVal .f64 x .i64 = some n := by
  have h : (FloatKind.f64.decode x).toInt .zero = some n := h
  unfold floatToIntVal
  rw [h]
  have h1 : IntKind.i64.min ≤ n := by show (-9223372036854775808 : Int) ≤ n; omega
  have h2 : n ≤ IntKind.i64.max := by show n ≤ (9223372036854775807 : Int); omega
  simp only [h1, h2, and_self, if_true]

theorem conv64 {x : Nat} {n : Int} (h : (Ieee.double.read x).toInt .zero = some n) (hn : n.natAbs < 9007199254740992) (w : World) :
    (convert 22 2 (.float .f64 x)).run Tryd.prog w = .ok (.int .i64 n) w :=
  run_convert_float_int w 22 2 .f64 .i64 x n (by rw [Tryd.underlying22]; rfl) Tryd.underlying2 (toIntVal_of h hn)

/-- bailiffref01.whole. -/
theorem whole_any (x : Nat) (w : World) (hx : x < 18446744073709551616) :
    Calls Tryd.prog 100 #[.float .f64 x] w fun e w' => e = .returned (.tuple #[.int .i64 (Fl.wholeS x).1, .bool (Fl.wholeS x).2]) ∧ w = w' := by
  have g1 := Fl.ord_geq hx (y := 14069245235905429503) (by omega)
  have g2 := Fl.ord_leq hx (y := 4845873199050653695) (by omega)
  have k1 : Fl.fle 14069245235905429503 x = (!Fl.isN x && decide (-4845873199050653695 ≤ Fl.key x)) := by
    unfold Fl.fle; rw [show Fl.isN 14069245235905429503 = false from by decide, show Fl.key 14069245235905429503 = -4845873199050653695 from by decide]; rfl
  have k2 : Fl.fle x 4845873199050653695 = (!Fl.isN x && decide (Fl.key x ≤ 4845873199050653695)) := by
    unfold Fl.fle; rw [Fl.isN_safe, Fl.key_safe']; simp
  cases e1 : Fl.fle 14069245235905429503 x with
  | false =>
    have hs : Fl.wholeS x = (0, false) := by
      unfold Fl.wholeS
      cases hN : Fl.isN x with
      | true => rw [Fl.isN_num? hN]; rfl
      | false => rw [Fl.num?_out (fun h => by rw [k1, hN, decide_eq_true h.1] at e1; cases e1)]; rfl
    rw [hs]
    rw [e1] at g1
    clear k1 k2 e1 hs g2 hx
    go_enter Tryd.func100, Tryd.ntmps100
    go_wp2
    go_ret2
    exact ⟨rfl, rfl⟩
  | true =>
    rw [e1] at g1
    cases e2 : Fl.fle x 4845873199050653695 with
    | false =>
      have hs : Fl.wholeS x = (0, false) := by
        unfold Fl.wholeS
        cases hN : Fl.isN x with
        | true => rw [Fl.isN_num? hN]; rfl
        | false => rw [Fl.num?_out (fun h => by rw [k2, hN, decide_eq_true h.2] at e2; cases e2)]; rfl
      rw [hs]
      rw [e2] at g2
      clear k1 k2 e1 e2 hs hx
      go_enter Tryd.func100, Tryd.ntmps100
      go_wp2
      go_ret2
      exact ⟨rfl, rfl⟩
    | true =>
      rw [e2] at g2
      rw [k1] at e1
      rw [k2] at e2
      have hN : Fl.isN x = false := by cases h : Fl.isN x; rfl; rw [h] at e1; cases e1
      rw [hN] at e1 e2
      have b1 : -4845873199050653695 ≤ Fl.key x := of_decide_eq_true e1
      have b2 : Fl.key x ≤ 4845873199050653695 := of_decide_eq_true e2
      obtain ⟨n, hn, ht, _, _, _, hq⟩ := Fl.num?_iff hx b1 b2
      have hc := conv64 ht hn
      have g3 := Fl.ord_neq (Fl.W_lt hn) hx
      have g4 := Fl.ord_eql hx (y := 0) (by omega)
      have k3 : Fl.feq (Fl.W n) x = decide (Fl.key (Fl.W n) = Fl.key x) := by unfold Fl.feq; rw [Fl.isN_W hn, hN]; rfl
      have k4 : Fl.feq x 0 = decide (Fl.key x = 0) := by unfold Fl.feq; rw [hN, Fl.isN_zero, Fl.key_zero']; rfl
      have hz := Fl.key_zero hx
      rw [k3] at g3
      rw [k4] at g4
      have hs : Fl.wholeS x = Fl.wholeO (if Fl.key (Fl.W n) = Fl.key x ∧ x ≠ 9223372036854775808 then some n else none) := by unfold Fl.wholeS; rw [hq]
      have hfw := Fl.floatOfInt_W
      clear k1 k2 k3 k4 e1 e2 hq ht hN b1 b2
      by_cases c1 : Fl.key (Fl.W n) = Fl.key x
      · rw [decide_eq_true c1] at g3
        by_cases c2 : Fl.key x = 0
        · rw [decide_eq_true c2] at g4
          rcases hz.1 c2 with rfl | rfl
          · rw [if_pos ⟨c1, by decide⟩] at hs
            rw [hs]
            have hd := inf_of_zero
            have g5 : (FloatKind.f64.format.order 9218868437227405312 0 == some .lt) = false := by decide +kernel
            clear hs hz c1 c2 hn hx
            go_enter Tryd.func100, Tryd.ntmps100
            go_wp2
            go_ret2
            exact ⟨rfl, rfl⟩
          · rw [if_neg (fun h => h.2 rfl)] at hs
            rw [hs]
            have hd := inf_of_nzero
            have g5 : (FloatKind.f64.format.order 18442240474082181120 0 == some .lt) = true := by decide +kernel
            clear hs hz c1 c2 hn hx
            go_enter Tryd.func100, Tryd.ntmps100
            go_wp2
            go_ret2
            exact ⟨rfl, rfl⟩
        · rw [decide_eq_false c2] at g4
          rw [if_pos ⟨c1, fun h => c2 (hz.2 (.inr h))⟩] at hs
          rw [hs]
          clear hs hz c1 c2 hn hx
          go_enter Tryd.func100, Tryd.ntmps100
          go_wp2
          go_ret2
          exact ⟨rfl, rfl⟩
      · rw [decide_eq_false c1] at g3
        rw [if_neg (fun h => c1 h.1)] at hs
        rw [hs]
        clear hs hz c1 g4 hn hx
        go_enter Tryd.func100, Tryd.ntmps100
        go_wp2
        go_ret2
        exact ⟨rfl, rfl⟩

theorem may_whole (x : Nat) : Fl.may x = ((Fl.wholeS x).2 || Fl.isN x) := by
  unfold Fl.may Fl.wholeS Fl.wholeO
  cases Fl.num? x <;> cases Fl.isN x <;> rfl

theorem refMay_any (x : Nat) (w : World) (hx : x < 18446744073709551616) :
    Calls Tryd.prog 120 #[.float .f64 x] w fun e w' => e = .returned (.bool (Fl.may x)) ∧ w = w' := by
  have hM := Lib.hid (fun w' => whole_any x w' hx)
  have h1 := Fl.ord_neq hx hx
  rw [Fl.feq_self] at h1
  rw [may_whole]
  generalize Fl.wholeS x = q at hM ⊢
  obtain ⟨n, b⟩ := q
  clear hx
  cases e1 : Fl.isN x <;> rw [e1] at h1 <;> clear e1 <;> cases b
  all_goals
    go_enter Tryd.func120, Tryd.ntmps120
    go_wp2_with (go_at_call 100; refine (hM.out _).mono ?_; rintro e w' ⟨rfl, rfl⟩)
    go_ret
    exact ⟨rfl, rfl⟩
end Go.Proofs.YtajmdpndbfmdmaaDoor
namespace Go.Proofs.YtajmdpndbfmdmaaDoor
open Go Go.RowKit

theorem float_lt {a : Nat} (h : (Lit.float .f64 a).wf = true) : a < 18446744073709551616 := by
  simp only [Lit.wf, decide_eq_true_eq] at h; exact h

end Go.Proofs.YtajmdpndbfmdmaaDoor
namespace Go.Proofs.YtajmdpndbfmdmaaDoor
open Go Go.RowKit

theorem int_any (x : Nat) (w : World) (hx : x < 18446744073709551616) :
    Calls Tryd.prog 48 #[.float .f64 x] w fun e w' => e = .returned (.int .i32 (Fl.intS x)) ∧ w = w' := by
  have hM := Lib.hid (fun w' => may_any x w' hx)
  have h1 := Fl.ord_neq hx hx
  rw [Fl.feq_self] at h1
  cases Fl.make_of x with
  | nan hN h2 h3 =>
    rw [hN] at h1
    have hs : Fl.intS x = 0 := by unfold Fl.intS; rw [h2]
    rw [hs]
    clear hN h2 h3 hs hx
    go_enter Tryd.func48, Tryd.ntmps48
    go_wp2
    go_ret
    exact ⟨rfl, rfl⟩
  | bad hN h2 h3 =>
    rw [hN] at h1
    have hs : Fl.intS x = 0 := by unfold Fl.intS; rw [h2]
    rw [hs]
    rw [h3] at hM
    clear hN h2 h3 hs hx
    go_enter Tryd.func48, Tryd.ntmps48
    go_wp2_with (go_at_call 45; refine (hM.out _).mono ?_; rintro e w' ⟨rfl, rfl⟩)
    go_ret
    exact ⟨rfl, rfl⟩
  | int n hn e h2 h3 h4 =>
    rw [h4] at h1
    rw [h3] at hM
    have hc := conv_int64 hn
    have hs : Fl.intS x = wrap32 n := by unfold Fl.intS; rw [h2]
    rw [hs]
    clear hs h2 h3 h4 hx hn
    subst e
    go_enter Tryd.func48, Tryd.ntmps48
    go_wp2_with (go_at_call 45; refine (hM.out _).mono ?_; rintro e w' ⟨rfl, rfl⟩)
    go_ret
    exact ⟨rfl, rfl⟩

theorem tmod_bounds (n : Int) : -4294967296 < n.tmod 4294967296 ∧ n.tmod 4294967296 < 4294967296 := by
  have := Int.natAbs_tmod n 4294967296
  have h : n.natAbs % (4294967296 : Int).natAbs < 4294967296 := Nat.mod_lt _ (by decide)
  omega
theorem wrap32_tmod (n : Int) :
    (n.tmod 4294967296 < 0 → n.tmod 4294967296 + 4294967296 ≥ 2147483648 → wrap32 n = n.tmod 4294967296) ∧
    (n.tmod 4294967296 < 0 → ¬ n.tmod 4294967296 + 4294967296 ≥ 2147483648 → wrap32 n = n.tmod 4294967296 + 4294967296) ∧
    (¬ n.tmod 4294967296 < 0 → n.tmod 4294967296 ≥ 2147483648 → wrap32 n = n.tmod 4294967296 - 4294967296) ∧
    (¬ n.tmod 4294967296 < 0 → ¬ n.tmod 4294967296 ≥ 2147483648 → wrap32 n = n.tmod 4294967296) := by
  have h := Int.tmod_eq_emod (a := n) (b := 4294967296)
  unfold wrap32
  rw [h]
  split <;> refine ⟨?_, ?_, ?_, ?_⟩ <;> omega

/-- What an operation on bits gives. -/
def bitsV (o a b : Int) : Option Int :=
  if o = 38 then some (bits .and .i32 a b) else if o = 124 then some (bits .or .i32 a b) else if o = 94 then some (bits .xor .i32 a b)
  else if o = 60 then some (wrap32 (a * 2 ^ (b % 32).toNat)) else if o = 62 then some (a / 2 ^ (b % 32).toNat)
  else if o = 117 then some (a % 4294967296 / 2 ^ (b % 32).toNat) else none
def bitsR : Option Int → Nat × Int
  | some n => (Fl.W n, 0)
  | none => (0, 2)
def bitsS (o : Int) (x y : Nat) : Nat × Int :=
  if Fl.may x = true ∧ Fl.may y = true then bitsR (bitsV o (Fl.intS x) (Fl.intS y)) else (0, 2)

theorem low_five (b : Int) : bits BinOp.and IntKind.u32 (b % 4294967296) 31 = b % 32 := by
  have h : (31 : Int) = ((31 : Nat) : Int) := rfl
  obtain ⟨k, hk⟩ := Int.eq_ofNat_of_zero_le (show 0 ≤ b % 4294967296 by omega)
  rw [hk, h, u32_and_nat k 31 (by omega) (by omega), nat_mask5]
  omega

theorem bits_may (o : Int) (x y : Nat) (w : World) (hx : x < 18446744073709551616) (hy : y < 18446744073709551616) (h : ¬ (Fl.may x = true ∧ Fl.may y = true)) :
    Calls Tryd.prog 47 #[.int .u8 o, .float .f64 x, .float .f64 y] w fun e w' => e = .returned (.tuple #[.float .f64 0, .int .i64 2]) ∧ w = w' := by
  have a1 := Lib.hid (fun w' => may_any x w' hx)
  have a2 := Lib.hid (fun w' => may_any y w' hy)
  cases m1 : Fl.may x with
  | false =>
    rw [m1] at a1
    clear h m1
    go_enter Tryd.func47, Tryd.ntmps47
    go_wp2_with fail
    refine (a1.out _).mono ?_; rintro e w' ⟨rfl, rfl⟩
    go_wp2_with fail
    go_ret2
    exact ⟨rfl, rfl⟩
  | true =>
    have m2 : Fl.may y = false := by cases m2 : Fl.may y; rfl; exact absurd ⟨m1, m2⟩ h
    rw [m1] at a1
    rw [m2] at a2
    clear h m1 m2
    go_enter Tryd.func47, Tryd.ntmps47
    go_wp2_with fail
    refine (a1.out _).mono ?_; rintro e w' ⟨rfl, rfl⟩
    go_wp2_with fail
    refine (a2.out _).mono ?_; rintro e w' ⟨rfl, rfl⟩
    go_wp2_with fail
    go_ret2
    exact ⟨rfl, rfl⟩

theorem bitsV_eq (o a b : Int) : bitsV o a b = if o = 38 then some (bits .and .i32 a b) else if o = 124 then some (bits .or .i32 a b) else if o = 94 then some (bits .xor .i32 a b)
      else if o = 60 then some (wrap32 (a * 2 ^ (b % 32).toNat)) else if o = 62 then some (a / 2 ^ (b % 32).toNat)
      else if o = 117 then some (a % 4294967296 / 2 ^ (b % 32).toNat) else none := rfl

theorem bits_any (o : Int) (x y : Nat) (w : World) (hx : x < 18446744073709551616) (hy : y < 18446744073709551616) :
    Calls Tryd.prog 47 #[.int .u8 o, .float .f64 x, .float .f64 y] w fun e w' => e = .returned (.tuple #[.float .f64 (bitsS o x y).1, .int .i64 (bitsS o x y).2]) ∧ w = w' := by
  by_cases h : Fl.may x = true ∧ Fl.may y = true
  · have hs : bitsS o x y = bitsR (bitsV o (Fl.intS x) (Fl.intS y)) := by unfold bitsS; rw [if_pos h]
    rw [hs]
    have a1 := Lib.hid (fun w' => may_any x w' hx)
    have a2 := Lib.hid (fun w' => may_any y w' hy)
    have b1 := Lib.hid (fun w' => int_any x w' hx)
    have b2 := Lib.hid (fun w' => int_any y w' hy)
    have hfw := Fl.floatOfInt_W
    rw [h.1] at a1
    rw [h.2] at a2
    generalize Fl.intS x = a at *
    generalize Fl.intS y = b at *
    have hk := low_five b
    have hv := bitsV_eq o a b
    have k0 : 0 ≤ b % 32 := by omega
    have k1 : b % 32 ≤ 31 := by omega
    clear hs h hx hy
    by_cases c38 : o = 38
    · rw [if_pos c38] at hv
      rw [hv]
      clear hv
      subst c38
      go_enter Tryd.func47, Tryd.ntmps47
      go_wp2_with fail
      refine (a1.out _).mono ?_; rintro e w' ⟨rfl, rfl⟩
      go_wp2_with fail
      refine (a2.out _).mono ?_; rintro e w' ⟨rfl, rfl⟩
      go_wp2_with fail
      refine (b1.out _).mono ?_; rintro e w' ⟨rfl, rfl⟩
      go_wp2_with fail
      refine (b2.out _).mono ?_; rintro e w' ⟨rfl, rfl⟩
      go_wp2
      go_ret2
      exact ⟨rfl, rfl⟩
    · rw [if_neg c38] at hv
      by_cases c124 : o = 124
      · rw [if_pos c124] at hv
        rw [hv]
        clear hv
        subst c124
        go_enter Tryd.func47, Tryd.ntmps47
        go_wp2_with fail
        refine (a1.out _).mono ?_; rintro e w' ⟨rfl, rfl⟩
        go_wp2_with fail
        refine (a2.out _).mono ?_; rintro e w' ⟨rfl, rfl⟩
        go_wp2_with fail
        refine (b1.out _).mono ?_; rintro e w' ⟨rfl, rfl⟩
        go_wp2_with fail
        refine (b2.out _).mono ?_; rintro e w' ⟨rfl, rfl⟩
        go_wp2
        go_ret2
        exact ⟨rfl, rfl⟩
      · rw [if_neg c124] at hv
        by_cases c94 : o = 94
        · rw [if_pos c94] at hv
          rw [hv]
          clear hv
          subst c94
          go_enter Tryd.func47, Tryd.ntmps47
          go_wp2_with fail
          refine (a1.out _).mono ?_; rintro e w' ⟨rfl, rfl⟩
          go_wp2_with fail
          refine (a2.out _).mono ?_; rintro e w' ⟨rfl, rfl⟩
          go_wp2_with fail
          refine (b1.out _).mono ?_; rintro e w' ⟨rfl, rfl⟩
          go_wp2_with fail
          refine (b2.out _).mono ?_; rintro e w' ⟨rfl, rfl⟩
          go_wp2
          go_ret2
          exact ⟨rfl, rfl⟩
        · rw [if_neg c94] at hv
          by_cases c60 : o = 60
          · rw [if_pos c60] at hv
            rw [hv]
            clear hv
            subst c60
            go_enter Tryd.func47, Tryd.ntmps47
            go_wp2_with fail
            refine (a1.out _).mono ?_; rintro e w' ⟨rfl, rfl⟩
            go_wp2_with fail
            refine (a2.out _).mono ?_; rintro e w' ⟨rfl, rfl⟩
            go_wp2_with fail
            refine (b1.out _).mono ?_; rintro e w' ⟨rfl, rfl⟩
            go_wp2_with fail
            refine (b2.out _).mono ?_; rintro e w' ⟨rfl, rfl⟩
            go_wp2
            go_ret2
            exact ⟨rfl, rfl⟩
          · rw [if_neg c60] at hv
            by_cases c62 : o = 62
            · rw [if_pos c62] at hv
              rw [hv]
              clear hv
              subst c62
              go_enter Tryd.func47, Tryd.ntmps47
              go_wp2_with fail
              refine (a1.out _).mono ?_; rintro e w' ⟨rfl, rfl⟩
              go_wp2_with fail
              refine (a2.out _).mono ?_; rintro e w' ⟨rfl, rfl⟩
              go_wp2_with fail
              refine (b1.out _).mono ?_; rintro e w' ⟨rfl, rfl⟩
              go_wp2_with fail
              refine (b2.out _).mono ?_; rintro e w' ⟨rfl, rfl⟩
              go_wp2
              go_ret2
              exact ⟨rfl, rfl⟩
            · rw [if_neg c62] at hv
              by_cases c117 : o = 117
              · rw [if_pos c117] at hv
                rw [hv]
                clear hv
                subst c117
                go_enter Tryd.func47, Tryd.ntmps47
                go_wp2_with fail
                refine (a1.out _).mono ?_; rintro e w' ⟨rfl, rfl⟩
                go_wp2_with fail
                refine (a2.out _).mono ?_; rintro e w' ⟨rfl, rfl⟩
                go_wp2_with fail
                refine (b1.out _).mono ?_; rintro e w' ⟨rfl, rfl⟩
                go_wp2_with fail
                refine (b2.out _).mono ?_; rintro e w' ⟨rfl, rfl⟩
                go_wp2
                go_ret2
                exact ⟨rfl, rfl⟩
              · rw [if_neg c117] at hv
                rw [hv]
                clear hv
                have d38 : (o == 38) = false := by rw [beq_eq_false_iff_ne]; exact c38
                clear c38
                have d124 : (o == 124) = false := by rw [beq_eq_false_iff_ne]; exact c124
                clear c124
                have d94 : (o == 94) = false := by rw [beq_eq_false_iff_ne]; exact c94
                clear c94
                have d60 : (o == 60) = false := by rw [beq_eq_false_iff_ne]; exact c60
                clear c60
                have d62 : (o == 62) = false := by rw [beq_eq_false_iff_ne]; exact c62
                clear c62
                have d117 : (o == 117) = false := by rw [beq_eq_false_iff_ne]; exact c117
                clear c117
                go_enter Tryd.func47, Tryd.ntmps47
                go_wp2_with fail
                refine (a1.out _).mono ?_; rintro e w' ⟨rfl, rfl⟩
                go_wp2_with fail
                refine (a2.out _).mono ?_; rintro e w' ⟨rfl, rfl⟩
                go_wp2_with fail
                refine (b1.out _).mono ?_; rintro e w' ⟨rfl, rfl⟩
                go_wp2_with fail
                refine (b2.out _).mono ?_; rintro e w' ⟨rfl, rfl⟩
                go_wp2
                go_ret2
                exact ⟨rfl, rfl⟩
  · have hs : bitsS o x y = (0, 2) := by unfold bitsS; rw [if_neg h]
    rw [hs]
    exact bits_may o x y w hx hy h
end Go.Proofs.YtajmdpndbfmdmaaDoor
namespace Go.Proofs.YtajmdpndbfmdmaaDoor
open Go Go.RowKit

theorem low_five' (b : Int) : b % 4294967296 % 32 = b % 32 := by omega
theorem shl_ref (a : Int) (k : Nat) : wrap32 ((a % 4294967296 * 2 ^ k) % 4294967296) = wrap32 (a * 2 ^ k) := by
  have h : (a % 4294967296 * 2 ^ k) % 4294967296 = (a * 2 ^ k) % 4294967296 := by
    rw [Int.mul_emod, Int.emod_emod, ← Int.mul_emod]
  unfold wrap32
  rw [h]
  omega

end Go.Proofs.YtajmdpndbfmdmaaDoor
namespace Go.Proofs.YtajmdpndbfmdmaaDoor
open Go Go.RowKit

/-- Two floats that are one, or both no number. -/
def Alike (x y : Nat) : Prop := x < 18446744073709551616 ∧ y < 18446744073709551616 ∧ (x = y ∨ (Fl.isN x = true ∧ Fl.isN y = true))

theorem same_true (x y : Nat) (w : World) (h : Alike x y) :
    Calls Tryd.prog 98 #[.float .f64 x, .float .f64 y] w fun e w' => e = .returned (.bool true) ∧ w = w' := by
  obtain ⟨hx, hy, h⟩ := h
  have h1 := Fl.ord_neq hx hx
  have h2 := Fl.ord_neq hy hy
  rw [Fl.feq_self] at h1 h2
  cases hN : Fl.isN x with
  | true =>
    have hM : Fl.isN y = true := by
      rcases h with rfl | h
      · exact hN
      · exact h.2
    rw [hN] at h1
    rw [hM] at h2
    clear hN hM h hx hy
    go_enter Tryd.func98, Tryd.ntmps98
    go_wp2
    go_ret
    exact ⟨rfl, rfl⟩
  | false =>
    obtain rfl : x = y := by
      rcases h with h | h
      · exact h
      · rw [hN] at h; cases h.1
    have h3 := Fl.ord_eql hx hx
    rw [Fl.feq_self] at h3
    have h4 := Fl.ord_neq hx (y := 0) (by omega)
    have k4 : Fl.feq x 0 = decide (Fl.key x = 0) := by unfold Fl.feq; rw [hN, Fl.isN_zero, Fl.key_zero']; rfl
    rw [k4] at h4
    rw [hN] at h1 h2 h3
    have hz := Fl.key_zero hx
    by_cases c : Fl.key x = 0
    · rw [decide_eq_true c] at h4
      rcases hz.1 c with rfl | rfl
      · have hd := inf_of_zero
        have h5 : (FloatKind.f64.format.order 9218868437227405312 9218868437227405312 == some .eq) = true := by decide +kernel
        clear hz c k4 hN h hx hy
        go_enter Tryd.func98, Tryd.ntmps98
        go_wp2
        go_ret
        exact ⟨rfl, rfl⟩
      · have hd := inf_of_nzero
        have h5 : (FloatKind.f64.format.order 18442240474082181120 18442240474082181120 == some .eq) = true := by decide +kernel
        clear hz c k4 hN h hx hy
        go_enter Tryd.func98, Tryd.ntmps98
        go_wp2
        go_ret
        exact ⟨rfl, rfl⟩
    · rw [decide_eq_false c] at h4
      clear hz c k4 hN h hx hy
      go_enter Tryd.func98, Tryd.ntmps98
      go_wp2
      go_ret
      exact ⟨rfl, rfl⟩

theorem told_true (x y : Nat) (e : Int) (w : World) (h : Alike x y) :
    Calls Tryd.prog 41 #[.float .f64 x, .int .i64 e, .float .f64 y, .int .i64 e] w fun e w' => e = .returned (.bool true) ∧ w = w' := by
  have hS := Lib.hid (fun w' => same_true x y w' h)
  clear h
  go_enter Tryd.func41, Tryd.ntmps41
  go_wp2_with (go_at_call 98; refine (hS.out _).mono ?_; rintro e w' ⟨rfl, rfl⟩)
  go_ret
  exact ⟨by simp, rfl⟩

theorem W_lt_any (n : Int) : Fl.W n < 18446744073709551616 := Ieee.double.nearest_lt (decide (n < 0)) n.natAbs 0

theorem bitsS_lt (o : Int) (x y : Nat) : (bitsS o x y).1 < 18446744073709551616 := by
  unfold bitsS
  split
  · cases bitsV o (Fl.intS x) (Fl.intS y) with
    | none => exact (by decide : (0 : Nat) < 18446744073709551616)
    | some n => exact W_lt_any n
  · exact (by decide : (0 : Nat) < 18446744073709551616)

end Go.Proofs.YtajmdpndbfmdmaaDoor
