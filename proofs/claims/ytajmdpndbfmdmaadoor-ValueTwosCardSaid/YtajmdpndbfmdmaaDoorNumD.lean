/-
  The walk of bailifflaw01.NumRow: it returns true. Conditions: the arguments are words of 64 bits.
-/
import Derived.Test.YtajmdpndbfmdmaaDoorNumC
import Derived.Below
namespace Go.Proofs.YtajmdpndbfmdmaaDoor
open Go Go.RowKit

theorem float_lt {a : Nat} (h : (Lit.float .f64 a).wf = true) : a < 18446744073709551616 := by
  simp only [Lit.wf, decide_eq_true_eq] at h; exact h

end Go.Proofs.YtajmdpndbfmdmaaDoor
