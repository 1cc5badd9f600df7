/-
  value.Num, Str and Bool, and the document's, make the values that they say; bailiffref07.Alike is true of a value and itself; the walk of bailifflaw07.ValueMade. Conditions: floats are words of 64 bits.
-/
import Derived.Test.YtajmdpndbfmdmaaNumG
namespace Go.Proofs.Ytajmdpndbfmdmaa
open Go Go.RowKit

/-- A value: its kind, number, text, place. -/
def val (k : Int) (x : Nat) (s : ByteArray) (r : Int) : Value := .agg #[.int .u8 k, .float .f64 x, .string s, .int .i64 r]

@[go_sem] theorem run_store_float {P : Program} (w : World) (a : Addr) (k : FloatKind) (b : Nat) (m : Mode) : (store a (.float k b) m).run P w = stored P w a (.float k b) m := run_store P w a _ m rfl

theorem below_one {w : World} {o : Obj} : Below w.heap.size w (w.alloc o) := (Below.refl _ _).alloc (Nat.le_refl _) _

theorem vNum_any (x : Nat) (w : World) :
    Calls Try.prog 12 #[.float .f64 x] w fun e w' => e = .returned (val 3 x ByteArray.empty 0) ∧ Below w.heap.size w w' := by
  go_enter Try.func12, Try.ntmps12
  go_wp2
  exact bodyPost_ret (v := val 3 x ByteArray.empty 0) (by simp [val, results, Try.results12, go_sem]; rfl) rfl ⟨rfl, below_one⟩
theorem vStr_any (s : ByteArray) (w : World) :
    Calls Try.prog 14 #[.string s] w fun e w' => e = .returned (val 4 0 s 0) ∧ Below w.heap.size w w' := by
  go_enter Try.func14, Try.ntmps14
  go_wp2
  exact bodyPost_ret (v := val 4 0 s 0) (by simp [val, results, Try.results14, go_sem]) rfl ⟨rfl, below_one⟩
/-- The number of a boolean. -/
def bnum (b : Bool) : Nat := if b then 4607182418800017408 else 0
theorem vBool_any (b : Bool) (w : World) :
    Calls Try.prog 16 #[.bool b] w fun e w' => e = .returned (val 2 (bnum b) ByteArray.empty 0) ∧ Below w.heap.size w w' := by
  cases b
  · go_enter Try.func16, Try.ntmps16
    go_wp2
    exact bodyPost_ret (v := val 2 (bnum false) ByteArray.empty 0) (by simp [val, bnum, results, Try.results16, go_sem]; rfl) rfl ⟨rfl, below_one⟩
  · go_enter Try.func16, Try.ntmps16
    go_wp2
    exact bodyPost_ret (v := val 2 (bnum true) ByteArray.empty 0) (by simp [val, bnum, results, Try.results16, go_sem]; rfl) rfl ⟨rfl, below_one⟩
theorem rNum_any (x : Nat) (w : World) :
    Calls Try.prog 13 #[.float .f64 x] w fun e w' => e = .returned (val 3 x ByteArray.empty 0) ∧ Below w.heap.size w w' := by
  go_enter Try.func13, Try.ntmps13
  go_wp2
  exact bodyPost_ret (v := val 3 x ByteArray.empty 0) (by simp [val, results, Try.results13, go_sem]; rfl) rfl ⟨rfl, below_one⟩
theorem rStr_any (s : ByteArray) (w : World) :
    Calls Try.prog 15 #[.string s] w fun e w' => e = .returned (val 4 0 s 0) ∧ Below w.heap.size w w' := by
  go_enter Try.func15, Try.ntmps15
  go_wp2
  exact bodyPost_ret (v := val 4 0 s 0) (by simp [val, results, Try.results15, go_sem]) rfl ⟨rfl, below_one⟩
theorem rBool_any (b : Bool) (w : World) :
    Calls Try.prog 17 #[.bool b] w fun e w' => e = .returned (val 2 (bnum b) ByteArray.empty 0) ∧ Below w.heap.size w w' := by
  cases b
  · go_enter Try.func17, Try.ntmps17
    go_wp2
    exact bodyPost_ret (v := val 2 (bnum false) ByteArray.empty 0) (by simp [val, bnum, results, Try.results17, go_sem]; rfl) rfl ⟨rfl, below_one⟩
  · go_enter Try.func17, Try.ntmps17
    go_wp2
    exact bodyPost_ret (v := val 2 (bnum true) ByteArray.empty 0) (by simp [val, bnum, results, Try.results17, go_sem]; rfl) rfl ⟨rfl, below_one⟩

theorem alike_self (k : Int) (x : Nat) (s : ByteArray) (r : Int) (w : World) (hx : x < 18446744073709551616) :
    Calls Try.prog 11 #[val k x s r, val k x s r] w fun e w' => e = .returned (.bool true) ∧ Below w.heap.size w w' := by
  have hS := Lib.hid (fun w' => same_true x x w' ⟨hx, hx, .inl rfl⟩)
  unfold val
  clear hx
  go_enter Try.func11, Try.ntmps11
  go_wp2_with (go_at_call 53; refine (hS.out _).mono ?_; rintro e w' ⟨rfl, rfl⟩)
  go_ret
  exact ⟨rfl, ((Below.refl _ _).alloc (Nat.le_refl _) _).alloc (by simp) _⟩

theorem valueMade_walk (x : Nat) (s : ByteArray) (b : Bool) (w0 : (Lit.float .f64 x).wf = true) (_w1 : s.size ≤ maxLen) (w : World) :
    Calls Try.prog 3 #[.float .f64 x, .string s, .bool b] w fun e w' => e = .returned (.bool true) ∧ Below w.heap.size w w' := by
  have hx := float_lt w0
  have hA := Lib.hid (fun k x s r w' hx => alike_self k x s r w' hx)
  have hb : bnum b < 18446744073709551616 := by cases b <;> decide
  clear w0
  go_enter Try.func3, Try.ntmps3
  go_wp2_with fail
  refine (vNum_any _ _).mono ?_; rintro e w1 ⟨rfl, b1⟩
  go_wp2_with fail
  refine (rNum_any _ _).mono ?_; rintro e w2 ⟨rfl, b2⟩
  go_wp2_with fail
  refine (hA.out _ _ _ _ _ hx).mono ?_; rintro e w3 ⟨rfl, b3⟩
  go_wp2_with fail
  refine (vStr_any _ _).mono ?_; rintro e w4 ⟨rfl, b4⟩
  go_wp2_with fail
  refine (rStr_any _ _).mono ?_; rintro e w5 ⟨rfl, b5⟩
  go_wp2_with fail
  refine (hA.out _ _ _ _ _ (by decide)).mono ?_; rintro e w6 ⟨rfl, b6⟩
  go_wp2_with fail
  refine (vBool_any _ _).mono ?_; rintro e w7 ⟨rfl, b7⟩
  go_wp2_with fail
  refine (rBool_any _ _).mono ?_; rintro e w8 ⟨rfl, b8⟩
  go_wp2_with fail
  refine (hA.out _ _ _ _ _ hb).mono ?_; rintro e w9 ⟨rfl, b9⟩
  go_wp2
  go_ret
  refine ⟨rfl, ?_⟩
  have z1 := b1.size
  have z2 := b2.size
  have z3 := b3.size
  have z4 := b4.size
  have z5 := b5.size
  have z6 := b6.size
  have z7 := b7.size
  have z8 := b8.size
  exact b1.trans ((b2.mono (by omega)).trans ((b3.mono (by omega)).trans ((b4.mono (by omega)).trans ((b5.mono (by omega)).trans ((b6.mono (by omega)).trans ((b7.mono (by omega)).trans ((b8.mono (by omega)).trans (b9.mono (by omega)))))))))
end Go.Proofs.Ytajmdpndbfmdmaa
