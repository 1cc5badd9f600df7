/-
  The walk of bailifflaw07.ValueTwos. Conditions: the kinds are bytes, the numbers words of 64 bits.
-/
import Derived.Test.YtajmdpndbfmdmaaDoorValF
namespace Go.Proofs.YtajmdpndbfmdmaaDoor
open Go Go.RowKit

theorem long_any (k : Int) (x : Nat) (s : ByteArray) (r : Int) (k' : Int) (x' : Nat) (s' : ByteArray) (r' : Int) (w : World) :
    Calls Tryd.prog 18 #[val k x s r, val k' x' s' r'] w fun e w' => e = .returned (.bool (decide (9000 < s.size) || decide (9000 < s'.size))) ∧ Below w.heap.size w w' := by
  unfold val
  by_cases h1 : 9000 < s.size
  · have h2 : 9000 < (s.size : Int) := by omega
    rw [decide_eq_true h1, Bool.true_or]
    clear h1
    go_enter Tryd.func18, Tryd.ntmps18
    go_wp2
    go_ret
    exact ⟨rfl, below_two⟩
  · have h2 : ¬ 9000 < (s.size : Int) := by omega
    rw [decide_eq_false h1, Bool.false_or]
    clear h1
    by_cases h3 : 9000 < s'.size
    · have h4 : 9000 < (s'.size : Int) := by omega
      rw [decide_eq_true h3]
      clear h3
      go_enter Tryd.func18, Tryd.ntmps18
      go_wp2
      go_ret
      exact ⟨rfl, below_two⟩
    · have h4 : ¬ 9000 < (s'.size : Int) := by omega
      rw [decide_eq_false h3]
      clear h3
      go_enter Tryd.func18, Tryd.ntmps18
      go_wp2
      go_ret
      exact ⟨rfl, below_two⟩

theorem keep_all {w w1 w2 : World} {a b : Nat} {u0 u1 u2 u3 v0 v1 v2 v3 : Option Value}
    (h : w1.cell? ⟨a, 0, none⟩ = u0 ∧ w1.cell? ⟨a, 1, none⟩ = u1 ∧ w1.cell? ⟨a, 2, none⟩ = u2 ∧ w1.cell? ⟨a, 3, none⟩ = u3 ∧ w1.cell? ⟨b, 0, none⟩ = v0 ∧ w1.cell? ⟨b, 1, none⟩ = v1 ∧ w1.cell? ⟨b, 2, none⟩ = v2 ∧ w1.cell? ⟨b, 3, none⟩ = v3 ∧ a < w1.heap.size ∧ b < w1.heap.size ∧ Below w.heap.size w w1) (g : Below w1.heap.size w1 w2) :
    w2.cell? ⟨a, 0, none⟩ = u0 ∧ w2.cell? ⟨a, 1, none⟩ = u1 ∧ w2.cell? ⟨a, 2, none⟩ = u2 ∧ w2.cell? ⟨a, 3, none⟩ = u3 ∧ w2.cell? ⟨b, 0, none⟩ = v0 ∧ w2.cell? ⟨b, 1, none⟩ = v1 ∧ w2.cell? ⟨b, 2, none⟩ = v2 ∧ w2.cell? ⟨b, 3, none⟩ = v3 ∧ a < w2.heap.size ∧ b < w2.heap.size ∧ Below w.heap.size w w2 := by
  obtain ⟨g0, g1, g2, g3, h0, h1, h2, h3, h5, h6, h7⟩ := h
  have hs := g.size
  exact ⟨(g.cell (p := ⟨a, 0, none⟩) h5).trans g0, (g.cell (p := ⟨a, 1, none⟩) h5).trans g1, (g.cell (p := ⟨a, 2, none⟩) h5).trans g2, (g.cell (p := ⟨a, 3, none⟩) h5).trans g3, (g.cell (p := ⟨b, 0, none⟩) h6).trans h0, (g.cell (p := ⟨b, 1, none⟩) h6).trans h1, (g.cell (p := ⟨b, 2, none⟩) h6).trans h2, (g.cell (p := ⟨b, 3, none⟩) h6).trans h3, by omega, by omega, h7.trans (g.mono h7.size)⟩
theorem out_all {w w1 : World} {a b : Nat} {u0 u1 u2 u3 v0 v1 v2 v3 : Option Value}
    (h : w1.cell? ⟨a, 0, none⟩ = u0 ∧ w1.cell? ⟨a, 1, none⟩ = u1 ∧ w1.cell? ⟨a, 2, none⟩ = u2 ∧ w1.cell? ⟨a, 3, none⟩ = u3 ∧ w1.cell? ⟨b, 0, none⟩ = v0 ∧ w1.cell? ⟨b, 1, none⟩ = v1 ∧ w1.cell? ⟨b, 2, none⟩ = v2 ∧ w1.cell? ⟨b, 3, none⟩ = v3 ∧ a < w1.heap.size ∧ b < w1.heap.size ∧ Below w.heap.size w w1) : Below w.heap.size w w1 := h.2.2.2.2.2.2.2.2.2.2

set_option maxHeartbeats 4000000 in
theorem valueTwos_walk (k : Int) (x : Nat) (s : ByteArray) (r : Int) (k' : Int) (x' : Nat) (s' : ByteArray) (r' : Int) (w : World) (hk : 0 ≤ k) (hk' : 0 ≤ k') (hx : x < 18446744073709551616) (hy : x' < 18446744073709551616) :
    Calls Tryd.prog 3 #[val k x s r, val k' x' s' r'] w fun e w' => e = .returned (.bool true) ∧ Below w.heap.size w w' := by
  have q0 := Lib.hid (fun w' => long_any k x s r k' x' s' r' w')
  have q1 := Lib.hid (fun w' => vPlain_any k x s r k' x' s' r' w' hk hk' hx hy)
  have q2 := Lib.hid (fun w' => rPlain_any k x s r k' x' s' r' w' hk hk' hx hy)
  have q3 := Lib.hid (fun w' => vSame_any k x s r k' x' s' r' w' hx hy)
  have q4 := Lib.hid (fun w' => rSame_any k x s r k' x' s' r' w' hx hy)
  have q5 := Lib.hid (fun w' => vStrict_any k x s r k' x' s' r' w' hx hy)
  have q6 := Lib.hid (fun w' => rStrict_any k x s r k' x' s' r' w' hx hy)
  generalize (decide (9000 < s.size) || decide (9000 < s'.size)) = L at *
  generalize plainG k x s r k' x' s' r' = p at *
  generalize sameV k x s r k' x' s' r' = A at *
  generalize strictV k x s r k' x' s' r' = B at *
  have hA : (A == A) = true := by simp
  have hB : (B == B) = true := by simp
  unfold val at *
  clear hx hy hk hk'
  cases L with
  | true =>
    go_enter Tryd.func3, Tryd.ntmps3
    go_wp2_with fail
    refine (q0.out _).mono ?_; rintro e w1 ⟨rfl, b1⟩
    have B1 := Lib.hid b1
    clear b1
    go_wp2
    go_ret
    exact ⟨rfl, below_three B1.out⟩
  | false =>
    go_enter Tryd.func3, Tryd.ntmps3
    go_wp2_with fail
    refine (q0.out _).mono ?_; rintro e w1 ⟨rfl, b1⟩
    obtain ⟨hc, hf⟩ := bcell b1
    have B1 := Lib.hid b1
    clear b1
    go_wp2_with fail
    refine (q1.out _).mono ?_; rintro e w2 ⟨rfl, b2⟩
    have B2 := Lib.hid (B1.out.trans (b2.mono B1.out.size))
    clear b2 hc hf
    obtain ⟨hc, hf⟩ := bcell B2.out
    go_wp2_with fail
    refine (q2.out _).mono ?_; rintro e w3 ⟨rfl, b3⟩
    have B3 := Lib.hid (B2.out.trans (b3.mono B2.out.size))
    clear b3 hc hf
    obtain ⟨hc, hf⟩ := bcell B3.out
    go_wp2_with fail
    have hz : w.heap.size + 1 < w3.heap.size := by have := B3.out.size; simp at this; omega
    have i0 : w3.cell? ⟨w.heap.size, 0, none⟩ = some (.int .u8 k) := (hc _ 0 (by simp <;> omega)).trans (first_cell _ _ _ _ 0)
    have i1 : w3.cell? ⟨w.heap.size, 1, none⟩ = some (.float .f64 x) := (hc _ 1 (by simp <;> omega)).trans (first_cell _ _ _ _ 1)
    have i2 : w3.cell? ⟨w.heap.size, 2, none⟩ = some (.string s) := (hc _ 2 (by simp <;> omega)).trans (first_cell _ _ _ _ 2)
    have i3 : w3.cell? ⟨w.heap.size, 3, none⟩ = some (.int .i64 r) := (hc _ 3 (by simp <;> omega)).trans (first_cell _ _ _ _ 3)
    have j0 : w3.cell? ⟨w.heap.size + 1, 0, none⟩ = some (.int .u8 k') := (hc _ 0 (by simp <;> omega)).trans (second_cell _ _ _ _ 0)
    have j1 : w3.cell? ⟨w.heap.size + 1, 1, none⟩ = some (.float .f64 x') := (hc _ 1 (by simp <;> omega)).trans (second_cell _ _ _ _ 1)
    have j2 : w3.cell? ⟨w.heap.size + 1, 2, none⟩ = some (.string s') := (hc _ 2 (by simp <;> omega)).trans (second_cell _ _ _ _ 2)
    have j3 : w3.cell? ⟨w.heap.size + 1, 3, none⟩ = some (.int .i64 r') := (hc _ 3 (by simp <;> omega)).trans (second_cell _ _ _ _ 3)
    have hS : w3.cell? ⟨w.heap.size, 0, none⟩ = some (.int .u8 k) ∧ w3.cell? ⟨w.heap.size, 1, none⟩ = some (.float .f64 x) ∧ w3.cell? ⟨w.heap.size, 2, none⟩ = some (.string s) ∧ w3.cell? ⟨w.heap.size, 3, none⟩ = some (.int .i64 r) ∧ w3.cell? ⟨w.heap.size + 1, 0, none⟩ = some (.int .u8 k') ∧ w3.cell? ⟨w.heap.size + 1, 1, none⟩ = some (.float .f64 x') ∧ w3.cell? ⟨w.heap.size + 1, 2, none⟩ = some (.string s') ∧ w3.cell? ⟨w.heap.size + 1, 3, none⟩ = some (.int .i64 r') ∧ w.heap.size < w3.heap.size ∧ w.heap.size + 1 < w3.heap.size ∧ Below w.heap.size w w3 := ⟨i0, i1, i2, i3, j0, j1, j2, j3, by omega, hz, below_three B3.out⟩
    clear i0 i1 i2 i3 j0 j1 j2 j3 hc hf
    go_region_held3 (fun w' => w'.cell? ⟨w.heap.size, 0, none⟩ = some (.int .u8 k) ∧ w'.cell? ⟨w.heap.size, 1, none⟩ = some (.float .f64 x) ∧ w'.cell? ⟨w.heap.size, 2, none⟩ = some (.string s) ∧ w'.cell? ⟨w.heap.size, 3, none⟩ = some (.int .i64 r) ∧ w'.cell? ⟨w.heap.size + 1, 0, none⟩ = some (.int .u8 k') ∧ w'.cell? ⟨w.heap.size + 1, 1, none⟩ = some (.float .f64 x') ∧ w'.cell? ⟨w.heap.size + 1, 2, none⟩ = some (.string s') ∧ w'.cell? ⟨w.heap.size + 1, 3, none⟩ = some (.int .i64 r') ∧ w.heap.size < w'.heap.size ∧ w.heap.size + 1 < w'.heap.size ∧ Below w.heap.size w w') (first | exact hS | exact keep_all (by assumption) (by assumption) | (exact keep_all (by assumption) (Below.drew (Below.refl _ _)))) (first | (go_at_call 21; refine (q3.out _).mono ?_; rintro e w' ⟨rfl, b⟩) | (go_at_call 22; refine (q4.out _).mono ?_; rintro e w' ⟨rfl, b⟩) | (go_at_call 23; refine (q5.out _).mono ?_; rintro e w' ⟨rfl, b⟩) | (go_at_call 24; refine (q6.out _).mono ?_; rintro e w' ⟨rfl, b⟩))
    all_goals
      go_wp2
      go_ret
      exact ⟨by simp, out_all (by assumption)⟩
end Go.Proofs.YtajmdpndbfmdmaaDoor
