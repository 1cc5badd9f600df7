/-
  The walk of bailifflaw07.ValueSame. Conditions: the kinds are bytes, the numbers words of 64 bits, the places whole numbers of 64 bits; the table of powers of ten lies.
-/
import Derived.Test.YtajmdpndbfmdmaaDoorSamT
import Derived.Test.YtajmdpndbfmdmaaDoorValF
namespace Go.Proofs.YtajmdpndbfmdmaaDoor
open Go Go.RowKit

theorem third_cell (w : World) (cs : Array Value) (t : TypeId) (o o2 : Obj) (i : Nat) : (((w.alloc (.cells cs t)).alloc o).alloc o2).cell? ⟨w.heap.size, i, none⟩ = cs[i]? :=
  (World.cell?_alloc_lt _ _ ⟨w.heap.size, i, none⟩ (by simp; omega)).trans (first_cell w cs t o i)
theorem mid_cell (w : World) (cs : Array Value) (t : TypeId) (o o2 : Obj) (i : Nat) : (((w.alloc o).alloc (.cells cs t)).alloc o2).cell? ⟨w.heap.size + 1, i, none⟩ = cs[i]? :=
  (World.cell?_alloc_lt _ _ ⟨w.heap.size + 1, i, none⟩ (by simp)).trans (second_cell w cs t o i)
theorem last_cell (w : World) (cs : Array Value) (t : TypeId) (o o2 : Obj) (i : Nat) : (((w.alloc o).alloc o2).alloc (.cells cs t)).cell? ⟨w.heap.size + 1 + 1, i, none⟩ = cs[i]? := by
  have h := heap_alloc_new ((w.alloc o).alloc o2) (.cells cs t)
  have e : ((w.alloc o).alloc o2).heap.size = w.heap.size + 1 + 1 := by simp
  rw [e] at h
  exact cell_of_row _ _ i cs t (0, 0) h
theorem below_four {w w' : World} {a b c : Obj} (h : Below (((w.alloc a).alloc b).alloc c).heap.size (((w.alloc a).alloc b).alloc c) w') : Below w.heap.size w w' :=
  ((below_two (w := w)).alloc (by simp; omega) c).trans (h.mono (by simp; omega))

theorem keep_tri {w w1 w2 : World} {k k' k'' : Int} {x x' x'' : Nat} {s s' s'' : ByteArray} {r r' r'' : Int} (h : w1.cell? ⟨w.heap.size, 0, none⟩ = some (.int .u8 k) ∧ w1.cell? ⟨w.heap.size, 1, none⟩ = some (.float .f64 x) ∧ w1.cell? ⟨w.heap.size, 2, none⟩ = some (.string s) ∧ w1.cell? ⟨w.heap.size, 3, none⟩ = some (.int .i64 r) ∧ w1.cell? ⟨w.heap.size + 1, 0, none⟩ = some (.int .u8 k') ∧ w1.cell? ⟨w.heap.size + 1, 1, none⟩ = some (.float .f64 x') ∧ w1.cell? ⟨w.heap.size + 1, 2, none⟩ = some (.string s') ∧ w1.cell? ⟨w.heap.size + 1, 3, none⟩ = some (.int .i64 r') ∧ w1.cell? ⟨w.heap.size + 1 + 1, 0, none⟩ = some (.int .u8 k'') ∧ w1.cell? ⟨w.heap.size + 1 + 1, 1, none⟩ = some (.float .f64 x'') ∧ w1.cell? ⟨w.heap.size + 1 + 1, 2, none⟩ = some (.string s'') ∧ w1.cell? ⟨w.heap.size + 1 + 1, 3, none⟩ = some (.int .i64 r'') ∧ w.heap.size + 1 + 1 < w1.heap.size ∧ Below w.heap.size w w1) (g : Below w1.heap.size w1 w2) :
    w2.cell? ⟨w.heap.size, 0, none⟩ = some (.int .u8 k) ∧ w2.cell? ⟨w.heap.size, 1, none⟩ = some (.float .f64 x) ∧ w2.cell? ⟨w.heap.size, 2, none⟩ = some (.string s) ∧ w2.cell? ⟨w.heap.size, 3, none⟩ = some (.int .i64 r) ∧ w2.cell? ⟨w.heap.size + 1, 0, none⟩ = some (.int .u8 k') ∧ w2.cell? ⟨w.heap.size + 1, 1, none⟩ = some (.float .f64 x') ∧ w2.cell? ⟨w.heap.size + 1, 2, none⟩ = some (.string s') ∧ w2.cell? ⟨w.heap.size + 1, 3, none⟩ = some (.int .i64 r') ∧ w2.cell? ⟨w.heap.size + 1 + 1, 0, none⟩ = some (.int .u8 k'') ∧ w2.cell? ⟨w.heap.size + 1 + 1, 1, none⟩ = some (.float .f64 x'') ∧ w2.cell? ⟨w.heap.size + 1 + 1, 2, none⟩ = some (.string s'') ∧ w2.cell? ⟨w.heap.size + 1 + 1, 3, none⟩ = some (.int .i64 r'') ∧ w.heap.size + 1 + 1 < w2.heap.size ∧ Below w.heap.size w w2 := by
  obtain ⟨a0, a1, a2, a3, b0, b1, b2, b3, c0, c1, c2, c3, hz, hB⟩ := h
  have hs := g.size
  exact ⟨(g.cell (p := ⟨w.heap.size, 0, none⟩) (by show w.heap.size < _; omega)).trans a0, (g.cell (p := ⟨w.heap.size, 1, none⟩) (by show w.heap.size < _; omega)).trans a1, (g.cell (p := ⟨w.heap.size, 2, none⟩) (by show w.heap.size < _; omega)).trans a2, (g.cell (p := ⟨w.heap.size, 3, none⟩) (by show w.heap.size < _; omega)).trans a3, (g.cell (p := ⟨w.heap.size + 1, 0, none⟩) (by show w.heap.size + 1 < _; omega)).trans b0, (g.cell (p := ⟨w.heap.size + 1, 1, none⟩) (by show w.heap.size + 1 < _; omega)).trans b1, (g.cell (p := ⟨w.heap.size + 1, 2, none⟩) (by show w.heap.size + 1 < _; omega)).trans b2, (g.cell (p := ⟨w.heap.size + 1, 3, none⟩) (by show w.heap.size + 1 < _; omega)).trans b3, (g.cell (p := ⟨w.heap.size + 1 + 1, 0, none⟩) (by show w.heap.size + 1 + 1 < _; omega)).trans c0, (g.cell (p := ⟨w.heap.size + 1 + 1, 1, none⟩) (by show w.heap.size + 1 + 1 < _; omega)).trans c1, (g.cell (p := ⟨w.heap.size + 1 + 1, 2, none⟩) (by show w.heap.size + 1 + 1 < _; omega)).trans c2, (g.cell (p := ⟨w.heap.size + 1 + 1, 3, none⟩) (by show w.heap.size + 1 + 1 < _; omega)).trans c3, by omega, hB.trans (g.mono hB.size)⟩
theorem out_tri {w w1 : World} {k k' k'' : Int} {x x' x'' : Nat} {s s' s'' : ByteArray} {r r' r'' : Int} (h : w1.cell? ⟨w.heap.size, 0, none⟩ = some (.int .u8 k) ∧ w1.cell? ⟨w.heap.size, 1, none⟩ = some (.float .f64 x) ∧ w1.cell? ⟨w.heap.size, 2, none⟩ = some (.string s) ∧ w1.cell? ⟨w.heap.size, 3, none⟩ = some (.int .i64 r) ∧ w1.cell? ⟨w.heap.size + 1, 0, none⟩ = some (.int .u8 k') ∧ w1.cell? ⟨w.heap.size + 1, 1, none⟩ = some (.float .f64 x') ∧ w1.cell? ⟨w.heap.size + 1, 2, none⟩ = some (.string s') ∧ w1.cell? ⟨w.heap.size + 1, 3, none⟩ = some (.int .i64 r') ∧ w1.cell? ⟨w.heap.size + 1 + 1, 0, none⟩ = some (.int .u8 k'') ∧ w1.cell? ⟨w.heap.size + 1 + 1, 1, none⟩ = some (.float .f64 x'') ∧ w1.cell? ⟨w.heap.size + 1 + 1, 2, none⟩ = some (.string s'') ∧ w1.cell? ⟨w.heap.size + 1 + 1, 3, none⟩ = some (.int .i64 r'') ∧ w.heap.size + 1 + 1 < w1.heap.size ∧ Below w.heap.size w w1) : Below w.heap.size w w1 := h.2.2.2.2.2.2.2.2.2.2.2.2.2

set_option maxHeartbeats 8000000 in
set_option maxRecDepth 100000 in
theorem sam_bad (k : Int) (x : Nat) (s : ByteArray) (r : Int) (k' : Int) (x' : Nat) (s' : ByteArray) (r' : Int) (k'' : Int) (x'' : Nat) (s'' : ByteArray) (r'' : Int) (w : World) (hk : 0 ≤ k) (hk' : 0 ≤ k') (hk'' : 0 ≤ k'') (hx : x < 18446744073709551616) (hy : x' < 18446744073709551616) (hu : x'' < 18446744073709551616)
    (h : ¬ (mayV k x s r = true ∧ mayV k' x' s' r' = true ∧ mayV k'' x'' s'' r'' = true)) :
    Calls Tryd.prog 12 #[val k x s r, val k' x' s' r', val k'' x'' s'' r''] w fun e w' => e = .returned (.bool true) ∧ Below w.heap.size w w' := by
  have qv := Lib.hid (fun w' => lawAlive w')
  have m0 := Lib.hid (fun w' => vMay_any k x s r w' hk hx)
  have m1 := Lib.hid (fun w' => vMay_any k' x' s' r' w' hk' hy)
  have m2 := Lib.hid (fun w' => vMay_any k'' x'' s'' r'' w' hk'' hu)
  clear hx hy hu hk hk' hk''
  cases e0 : mayV k x s r with
  | false =>
    rw [e0] at m0
    clear e0 h
    unfold val at *
    go_enter Tryd.func12, Tryd.ntmps12
    go_wp2_with fail
    refine (qv.out _).mono ?_; rintro e w1 ⟨rfl, b1⟩
    obtain ⟨hc, hf⟩ := bcell b1
    have B1 := Lib.hid b1
    clear b1
    go_wp2_with fail
    refine (m0.out _).mono ?_; rintro e w2 ⟨rfl, b2⟩
    have B2 := Lib.hid (B1.out.trans (b2.mono B1.out.size))
    clear b2 hc hf
    obtain ⟨hc, hf⟩ := bcell B2.out
    go_wp2
    go_ret
    exact ⟨rfl, below_four B2.out⟩
  | true =>
    rw [e0] at m0
    cases e1 : mayV k' x' s' r' with
    | false =>
      rw [e1] at m1
      clear e0 e1 h
      unfold val at *
      go_enter Tryd.func12, Tryd.ntmps12
      go_wp2_with fail
      refine (qv.out _).mono ?_; rintro e w1 ⟨rfl, b1⟩
      obtain ⟨hc, hf⟩ := bcell b1
      have B1 := Lib.hid b1
      clear b1
      go_wp2_with fail
      refine (m0.out _).mono ?_; rintro e w2 ⟨rfl, b2⟩
      have B2 := Lib.hid (B1.out.trans (b2.mono B1.out.size))
      clear b2 hc hf
      obtain ⟨hc, hf⟩ := bcell B2.out
      go_wp2_with fail
      refine (m1.out _).mono ?_; rintro e w3 ⟨rfl, b3⟩
      have B3 := Lib.hid (B2.out.trans (b3.mono B2.out.size))
      clear b3 hc hf
      obtain ⟨hc, hf⟩ := bcell B3.out
      go_wp2
      go_ret
      exact ⟨rfl, below_four B3.out⟩
    | true =>
      rw [e1] at m1
      have e2 : mayV k'' x'' s'' r'' = false := by
        cases e2 : mayV k'' x'' s'' r'' with
        | false => rfl
        | true => exact absurd ⟨e0, e1, e2⟩ h
      rw [e2] at m2
      clear e0 e1 e2 h
      unfold val at *
      go_enter Tryd.func12, Tryd.ntmps12
      go_wp2_with fail
      refine (qv.out _).mono ?_; rintro e w1 ⟨rfl, b1⟩
      obtain ⟨hc, hf⟩ := bcell b1
      have B1 := Lib.hid b1
      clear b1
      go_wp2_with fail
      refine (m0.out _).mono ?_; rintro e w2 ⟨rfl, b2⟩
      have B2 := Lib.hid (B1.out.trans (b2.mono B1.out.size))
      clear b2 hc hf
      obtain ⟨hc, hf⟩ := bcell B2.out
      go_wp2_with fail
      refine (m1.out _).mono ?_; rintro e w3 ⟨rfl, b3⟩
      have B3 := Lib.hid (B2.out.trans (b3.mono B2.out.size))
      clear b3 hc hf
      obtain ⟨hc, hf⟩ := bcell B3.out
      go_wp2_with fail
      refine (m2.out _).mono ?_; rintro e w4 ⟨rfl, b4⟩
      have B4 := Lib.hid (B3.out.trans (b4.mono B3.out.size))
      clear b4 hc hf
      obtain ⟨hc, hf⟩ := bcell B4.out
      go_wp2
      go_ret
      exact ⟨rfl, below_four B4.out⟩

end Go.Proofs.YtajmdpndbfmdmaaDoor
