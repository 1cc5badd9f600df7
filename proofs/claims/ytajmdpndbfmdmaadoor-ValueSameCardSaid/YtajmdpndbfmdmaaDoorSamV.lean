/-
  Helpers for the walk of bailifflaw07.ValueSame: a region that draws its order, walked once in a class of worlds.
-/
import Derived.Test.YtajmdpndbfmdmaaDoorSamW0
import Derived.Deep.QuietTactic
import Derived.BigQuiet
namespace Go.Proofs.YtajmdpndbfmdmaaDoor
open Go Go.RowKit Go.BigFrame

/-- Three values in three cells of the call's own. -/
def Tri (w : World) (k : Int) (x : Nat) (s : ByteArray) (r : Int) (k' : Int) (x' : Nat) (s' : ByteArray) (r' : Int) (k'' : Int) (x'' : Nat) (s'' : ByteArray) (r'' : Int) (w1 : World) : Prop := w1.cell? ⟨w.heap.size, 0, none⟩ = some (.int .u8 k) ∧ w1.cell? ⟨w.heap.size, 1, none⟩ = some (.float .f64 x) ∧ w1.cell? ⟨w.heap.size, 2, none⟩ = some (.string s) ∧ w1.cell? ⟨w.heap.size, 3, none⟩ = some (.int .i64 r) ∧ w1.cell? ⟨w.heap.size + 1, 0, none⟩ = some (.int .u8 k') ∧ w1.cell? ⟨w.heap.size + 1, 1, none⟩ = some (.float .f64 x') ∧ w1.cell? ⟨w.heap.size + 1, 2, none⟩ = some (.string s') ∧ w1.cell? ⟨w.heap.size + 1, 3, none⟩ = some (.int .i64 r') ∧ w1.cell? ⟨w.heap.size + 1 + 1, 0, none⟩ = some (.int .u8 k'') ∧ w1.cell? ⟨w.heap.size + 1 + 1, 1, none⟩ = some (.float .f64 x'') ∧ w1.cell? ⟨w.heap.size + 1 + 1, 2, none⟩ = some (.string s'') ∧ w1.cell? ⟨w.heap.size + 1 + 1, 3, none⟩ = some (.int .i64 r'') ∧ w.heap.size + 1 + 1 < w1.heap.size ∧ Below w.heap.size w w1
theorem Tri.keep {w w1 w2 : World} {k : Int} {x : Nat} {s : ByteArray} {r : Int} {k' : Int} {x' : Nat} {s' : ByteArray} {r' : Int} {k'' : Int} {x'' : Nat} {s'' : ByteArray} {r'' : Int} (h : Tri w k x s r k' x' s' r' k'' x'' s'' r'' w1) (g : Below w1.heap.size w1 w2) : Tri w k x s r k' x' s' r' k'' x'' s'' r'' w2 := keep_tri h g
theorem Tri.drew {w w1 : World} {k : Int} {x : Nat} {s : ByteArray} {r : Int} {k' : Int} {x' : Nat} {s' : ByteArray} {r' : Int} {k'' : Int} {x'' : Nat} {s'' : ByteArray} {r'' : Int} (h : Tri w k x s r k' x' s' r' k'' x'' s'' r'' w1) : Tri w k x s r k' x' s' r' k'' x'' s'' r'' w1.drew := keep_tri h (Below.drew (Below.refl _ _))
theorem Tri.out {w w1 : World} {k : Int} {x : Nat} {s : ByteArray} {r : Int} {k' : Int} {x' : Nat} {s' : ByteArray} {r' : Int} {k'' : Int} {x'' : Nat} {s'' : ByteArray} {r'' : Int} (h : Tri w k x s r k' x' s' r' k'' x'' s'' r'' w1) : Below w.heap.size w w1 := out_tri h

/-- A region that draws its order, walked once, in a class of worlds. -/
theorem wp_region_class {P : Program} {C : World → Prop} {id : Nat} {Q : Exit → Act → World → Prop} {a : Act} {w : World} {l : List Oper} (hm : P.follows .mixedOrders = true) (hB : Region.lexB .any l.toArray = true) (hC : C w.drew)
    (h : wpQuiet P l.toArray C (fun a' => ∀ w', C w' → Q .normal a' w') l a) : (Code.region id l.toArray true).wp P Q a w :=
  wp_region_quiet (C := C) hm hB hC (by simpa using h)
theorem quiet_run {P : Program} {C : World → Prop} {o : Oper} {a : Act} {K : Act → Prop} {v : Value} (h : ∀ w', C w' → (execOp a.eval o).run P w' = .ok (.value v) w') (hk : K (a.put o.dst v)) : o.quiet P a C K :=
  ⟨v, fun w' hw' => by unfold Oper.quietAt; rw [h w' hw']; exact ⟨rfl, rfl⟩, hk⟩
set_option maxRecDepth 100000 in
theorem tri_load0 {w : World} {k : Int} {x : Nat} {s : ByteArray} {r : Int} {k' : Int} {x' : Nat} {s' : ByteArray} {r' : Int} {k'' : Int} {x'' : Nat} {s'' : ByteArray} {r'' : Int} {o : Oper} {a : Act} {n : Nat} (ho : o.op = .load 24 (.tmp n)) (hp : a.tmps[n]?.getD undef = .pointer (some ⟨w.heap.size, 0, none⟩)) :
    ∀ w', Tri w k x s r k' x' s' r' k'' x'' s'' r'' w' → (execOp a.eval o).run Tryd.prog w' = .ok (.value (.agg #[(.int .u8 k), (.float .f64 x), (.string s), (.int .i64 r)])) w' := by
  intro w' ⟨c0, c1, c2, c3, _, _, _, _, _, _, _, _, _, _⟩
  go_simp
set_option maxRecDepth 100000 in
theorem tri_load1 {w : World} {k : Int} {x : Nat} {s : ByteArray} {r : Int} {k' : Int} {x' : Nat} {s' : ByteArray} {r' : Int} {k'' : Int} {x'' : Nat} {s'' : ByteArray} {r'' : Int} {o : Oper} {a : Act} {n : Nat} (ho : o.op = .load 24 (.tmp n)) (hp : a.tmps[n]?.getD undef = .pointer (some ⟨w.heap.size + 1, 0, none⟩)) :
    ∀ w', Tri w k x s r k' x' s' r' k'' x'' s'' r'' w' → (execOp a.eval o).run Tryd.prog w' = .ok (.value (.agg #[(.int .u8 k'), (.float .f64 x'), (.string s'), (.int .i64 r')])) w' := by
  intro w' ⟨_, _, _, _, c0, c1, c2, c3, _, _, _, _, _, _⟩
  go_simp
set_option maxRecDepth 100000 in
theorem tri_load2 {w : World} {k : Int} {x : Nat} {s : ByteArray} {r : Int} {k' : Int} {x' : Nat} {s' : ByteArray} {r' : Int} {k'' : Int} {x'' : Nat} {s'' : ByteArray} {r'' : Int} {o : Oper} {a : Act} {n : Nat} (ho : o.op = .load 24 (.tmp n)) (hp : a.tmps[n]?.getD undef = .pointer (some ⟨w.heap.size + 1 + 1, 0, none⟩)) :
    ∀ w', Tri w k x s r k' x' s' r' k'' x'' s'' r'' w' → (execOp a.eval o).run Tryd.prog w' = .ok (.value (.agg #[(.int .u8 k''), (.float .f64 x''), (.string s''), (.int .i64 r'')])) w' := by
  intro w' ⟨_, _, _, _, _, _, _, _, c0, c1, c2, c3, _, _⟩
  go_simp
end Go.Proofs.YtajmdpndbfmdmaaDoor
