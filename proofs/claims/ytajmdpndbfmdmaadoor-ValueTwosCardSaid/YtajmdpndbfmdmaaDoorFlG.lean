/-
  What the calls of whole numbers come to, and an operation without an answer gives a NaN of the tape. Conditions: each lemma's own hypotheses.
-/
import Derived.Test.YtajmdpndbfmdmaaDoorFlF
import Derived.Laws.FloatArith
namespace Fl
open Go Go.RowKit

theorem isN_lt_W {n : Int} (hn : n.natAbs < 9007199254740992) : W n < 18446744073709551616 := W_lt hn

theorem toIntVal_W {n : Int} (hn : n.natAbs < 9007199254740992) : floatToIntVal .f64 (W n) .i64 = some n := by
  have h : (FloatKind.f64.decode (W n)).toInt .zero = some n := toInt_W hn
  unfold floatToIntVal
  rw [h]
  have h1 : IntKind.i64.min ≤ n := by show (-9223372036854775808 : Int) ≤ n; omega
  have h2 : n ≤ IntKind.i64.max := by show n ≤ (9223372036854775807 : Int); omega
  simp only [h1, h2, and_self, if_true]

theorem floatBits_add_W {a b : Int} (ha : a.natAbs < 9007199254740992) (hb : b.natAbs < 9007199254740992) : floatBits .add .f64 (W a) (W b) = some (W (a + b)) := add_W ha hb
theorem floatBits_sub_W {a b : Int} (ha : a.natAbs < 9007199254740992) (hb : b.natAbs < 9007199254740992) : floatBits .sub .f64 (W a) (W b) = some (W (a - b)) := sub_W ha hb
theorem floatOfInt_W (n : Int) : floatOfInt .f64 n = W n := rfl

/-- What the calls of whole numbers come to. -/
def wholeO : Option Int → Int × Bool
  | some n => (n, true)
  | none => (0, false)
def wholeS (x : Nat) : Int × Bool := wholeO (num? x)
def indexS (x : Nat) : Int × Bool := match num? x with | some n => if 0 ≤ n ∧ n < 1024 then (n, true) else (0, false) | none => (0, false)
def lessS (x y : Nat) : Int := if isN x || isN y then -1 else if key x < key y then 1 else 0
def intS (x : Nat) : Int := match num? x with | some n => wrap32 n | none => 0

/-- A word that is a NaN, as the tape draws it. -/
theorem isN_nan (t : Nat) : isN ((t % 2) * 2 ^ 63 + 0x7ff0000000000000 + 1 + (t / 2) % (2 ^ 52 - 1)) = true ∧ (t % 2) * 2 ^ 63 + 0x7ff0000000000000 + 1 + (t / 2) % (2 ^ 52 - 1) < 18446744073709551616 := by
  unfold isN
  rw [show (2 : Nat) ^ 63 = 9223372036854775808 from by decide, show (0x7ff0000000000000 : Nat) = 9218868437227405312 from rfl, show (2 : Nat) ^ 52 - 1 = 4503599627370495 from by decide]
  have h1 : t % 2 < 2 := Nat.mod_lt _ (by decide)
  have h2 : t / 2 % 4503599627370495 < 4503599627370495 := Nat.mod_lt _ (by decide)
  generalize t % 2 = u at *
  generalize t / 2 % 4503599627370495 = v at *
  have hu : u = 0 ∨ u = 1 := by omega
  rcases hu with rfl | rfl
  · exact ⟨decide_eq_true (by omega), by omega⟩
  · exact ⟨decide_eq_true (by omega), by omega⟩

section
variable {P : Program}
/-- An operation that has no answer: a NaN that the tape draws. -/
theorem run_nan (op : BinOp) (t : TypeId) (x y : Nat) (hop : op = .add ∨ op = .sub ∨ op = .mul ∨ op = .quo) (h : floatBits op .f64 x y = none) (w : World) :
    ∃ r, isN r = true ∧ r < 18446744073709551616 ∧ (binOp op t (.float .f64 x) (.float .f64 y)).run P w = .ok (.float .f64 r) w.drew := by
  refine ⟨_, (isN_nan (w.tape w.drawn (.nanBits .f64 x y))).1, (isN_nan _).2, ?_⟩
  unfold floatBits at h
  rcases hop with rfl | rfl | rfl | rfl <;> simp only at h <;> simp [binOp, Op.floatArith, h, choose, Sem.run, Question.forced, Question.cut]
end

theorem wrap32_ref (n : Int) :
    wrap32 n = (let m := n.tmod 4294967296; let m := if m < 0 then m + 4294967296 else m; if m ≥ 2147483648 then m - 4294967296 else m) := by
  have h := Int.tmod_eq_emod (a := n) (b := 4294967296)
  simp only [h]
  unfold wrap32
  split <;> split <;> split <;> omega
end Fl
