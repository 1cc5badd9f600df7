/-
  value.Num, Str and Bool, and the document's, make the values that they say; bailiffref07.Alike is true of a value and itself; the walk of bailifflaw07.ValueMade. Conditions: floats are words of 64 bits.
-/
import Derived.Test.YtajmdpndbfmdmaaDoorNuA
namespace Go.Proofs.YtajmdpndbfmdmaaDoor
open Go Go.RowKit

/-- A value: its kind, number, text, place. -/
def val (k : Int) (x : Nat) (s : ByteArray) (r : Int) : Value := .agg #[.int .u8 k, .float .f64 x, .string s, .int .i64 r]

@[go_sem] theorem run_store_float {P : Program} (w : World) (a : Addr) (k : FloatKind) (b : Nat) (m : Mode) : (store a (.float k b) m).run P w = stored P w a (.float k b) m := run_store P w a _ m rfl

theorem below_one {w : World} {o : Obj} : Below w.heap.size w (w.alloc o) := (Below.refl _ _).alloc (Nat.le_refl _) _

theorem vNum_any (x : Nat) (w : World) :
    Calls Tryd.prog 74 #[.float .f64 x] w fun e w' => e = .returned (val 3 x ByteArray.empty 0) ∧ Below w.heap.size w w' := by
  go_enter Tryd.func74, Tryd.ntmps74
  go_wp2
  exact bodyPost_ret (v := val 3 x ByteArray.empty 0) (by simp [val, results, Tryd.results74, go_sem]; rfl) rfl ⟨rfl, below_one⟩
theorem vStr_any (s : ByteArray) (w : World) :
    Calls Tryd.prog 77 #[.string s] w fun e w' => e = .returned (val 4 0 s 0) ∧ Below w.heap.size w w' := by
  go_enter Tryd.func77, Tryd.ntmps77
  go_wp2
  exact bodyPost_ret (v := val 4 0 s 0) (by simp [val, results, Tryd.results77, go_sem]) rfl ⟨rfl, below_one⟩
/-- The number of a boolean. -/
def bnum (b : Bool) : Nat := if b then 4607182418800017408 else 0
theorem vBool_any (b : Bool) (w : World) :
    Calls Tryd.prog 76 #[.bool b] w fun e w' => e = .returned (val 2 (bnum b) ByteArray.empty 0) ∧ Below w.heap.size w w' := by
  cases b
  · go_enter Tryd.func76, Tryd.ntmps76
    go_wp2
    exact bodyPost_ret (v := val 2 (bnum false) ByteArray.empty 0) (by simp [val, bnum, results, Tryd.results76, go_sem]; rfl) rfl ⟨rfl, below_one⟩
  · go_enter Tryd.func76, Tryd.ntmps76
    go_wp2
    exact bodyPost_ret (v := val 2 (bnum true) ByteArray.empty 0) (by simp [val, bnum, results, Tryd.results76, go_sem]; rfl) rfl ⟨rfl, below_one⟩
theorem rNum_any (x : Nat) (w : World) :
    Calls Tryd.prog 83 #[.float .f64 x] w fun e w' => e = .returned (val 3 x ByteArray.empty 0) ∧ Below w.heap.size w w' := by
  go_enter Tryd.func83, Tryd.ntmps83
  go_wp2
  exact bodyPost_ret (v := val 3 x ByteArray.empty 0) (by simp [val, results, Tryd.results83, go_sem]; rfl) rfl ⟨rfl, below_one⟩
end Go.Proofs.YtajmdpndbfmdmaaDoor
