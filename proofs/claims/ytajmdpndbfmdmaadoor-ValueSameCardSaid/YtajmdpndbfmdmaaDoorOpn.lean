/-
  A parameter of the type api.Value opened to its four parts, and shut. Conditions: none.
-/
import Derived.Test.YtajmdpndbfmdmaaDoorValA
import Derived.Lib.SmallJoins
import Derived.ProofKit
import Derived.OpenShut
import Derived.Laws.Cover2
namespace Go.Proofs.YtajmdpndbfmdmaaDoor
open Go Go.ChangeShapes Go.WideShapes Go.RowKit Go.Joins

section
variable {H : Type} {enc : TypeId × Value → H} {w : World} {base : Nat} {spare : Nat → Bool} {held : Bool}

theorem trod_float {P : Program} {fuel : Nat} {t : TypeId} {k : FloatKind} {cs : List Value} {x : DataW H × List MemPlace} (ht : P.underlying t = some (.float k)) (h : DataW.trod enc P w base spare held fuel t cs = some x) : ∃ n, cs = [.float k n] ∧ x = (.lit (.float k n), []) ∧ (Lit.float k n).wf = true := by
  cases fuel with
  | zero => simp [DataW.trod] at h
  | succ n =>
    unfold DataW.trod at h
    rw [ht] at h
    split at h <;> simp_all

def valD (k : Int) (x : Nat) (s : ByteArray) (r : Int) : DataW H := .agg [.lit (.int .u8 k), .lit (.float .f64 x), .lit (.string s.data.toList), .lit (.int .i64 r)]

theorem wf_u8 {k : Int} (h : (Lit.int .u8 k).wf = true) : 0 ≤ k ∧ k ≤ 255 := by
  simp [Lit.wf, IntKind.min, IntKind.max, IntKind.signed, IntKind.bits] at h
  omega
theorem wf_i64 {k : Int} (h : (Lit.int .i64 k).wf = true) : -9223372036854775808 ≤ k ∧ k ≤ 9223372036854775807 := by
  simp [Lit.wf, IntKind.min, IntKind.max, IntKind.signed, IntKind.bits] at h
  omega

set_option maxRecDepth 100000 in
theorem open_value {r : Reach} {b0 : Nat} {v : Value} {d : DataW H} {p : List MemPlace} (hv : Value.okWide Tryd.prog w r b0 24 v) (h : DataW.Trod enc Tryd.prog w base spare held 24 v d p) :
    ∃ (k : Int) (x : Nat) (s : ByteArray) (n : Int), v = val k x s n ∧ d = valD k x s n ∧ p = [] ∧ (Lit.int .u8 k).wf = true ∧ (Lit.float .f64 x).wf = true ∧ s.size ≤ maxLen ∧ (Lit.int .i64 n).wf = true := by
  obtain ⟨v0, v1, v2, v3, y0, y1, y2, y3, n, rfl, rfl, rfl, t0, t1, t2, t3⟩ := open_agg4 Tryd.underlying24 (by kernel_rfl) (by kernel_rfl) hv h
  obtain ⟨k, e0, rfl, w0⟩ := DataW.trod_int Tryd.underlying5 t0
  obtain ⟨x, e1, rfl, w1⟩ := trod_float Tryd.underlying22 t1
  obtain ⟨s, e2, rfl, w2⟩ := DataW.trod_string Tryd.underlying9 t2
  obtain ⟨m, e3, rfl, w3⟩ := DataW.trod_int Tryd.underlying3 t3
  simp only [List.cons.injEq, and_true] at e0 e1 e2 e3
  subst e0 e1 e2 e3
  exact ⟨k, x, s, m, rfl, rfl, rfl, w0, w1, w2, w3⟩

set_option maxRecDepth 100000 in
theorem shut_value {k : Int} {x : Nat} {s : ByteArray} {n : Int} (w0 : (Lit.int .u8 k).wf = true) (w1 : (Lit.float .f64 x).wf = true) (w2 : s.size ≤ maxLen) (w3 : (Lit.int .i64 n).wf = true) :
    DataW.Trod enc Tryd.prog w base spare held 24 (val k x s n) (valD k x s n) [] := by
  have h := shut_agg4 (enc := enc) (w := w) (base := base) (spare := spare) (held := held) (y0 := (.lit (.int .u8 k), [])) (y1 := (.lit (.float .f64 x), [])) (y2 := (.lit (.string s.data.toList), [])) (y3 := (.lit (.int .i64 n), [])) (v0 := .int .u8 k) (v1 := .float .f64 x) (v2 := .string s) (v3 := .int .i64 n) Tryd.underlying24 (by kernel_rfl) (by kernel_rfl)
    (by obtain ⟨f, hf⟩ := shut_int (enc := enc) (w := w) (base := base) (spare := spare) (held := held) Tryd.underlying5 w0; exact ⟨f, hf⟩)
    (by obtain ⟨f, hf⟩ := shut_float (enc := enc) (w := w) (base := base) (spare := spare) (held := held) Tryd.underlying22 w1; exact ⟨f, hf⟩)
    (by obtain ⟨f, hf⟩ := Go.ChangeMaps.shut_string (enc := enc) (w := w) (base := base) (sp := spare) (held := held) Tryd.underlying9 w2; exact ⟨f, hf⟩)
    (by obtain ⟨f, hf⟩ := shut_int (enc := enc) (w := w) (base := base) (spare := spare) (held := held) Tryd.underlying3 w3; exact ⟨f, hf⟩)
  exact h
end
end Go.Proofs.YtajmdpndbfmdmaaDoor
