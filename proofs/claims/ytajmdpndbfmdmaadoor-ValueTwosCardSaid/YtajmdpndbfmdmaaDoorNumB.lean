/-
  num.Less, bailiffref01.Less and num.Index return what plain functions of the words say. Conditions: the arguments are words of 64 bits.
-/
import Derived.Test.YtajmdpndbfmdmaaDoorNumA
import Derived.Test.YtajmdpndbfmdmaaDoorFlG
namespace Go.Proofs.YtajmdpndbfmdmaaDoor
open Go Go.RowKit

theorem conv_int {n : Int} (hn : n.natAbs < 9007199254740992) (w : World) : (convert 22 3 (.float .f64 (Fl.W n))).run Tryd.prog w = .ok (.int .i64 n) w :=
  run_convert_float_int w 22 3 .f64 .i64 (Fl.W n) n (by rw [Tryd.underlying22]; rfl) Tryd.underlying3 (Fl.toIntVal_W hn)
theorem conv_int64 {n : Int} (hn : n.natAbs < 9007199254740992) (w : World) : (convert 22 2 (.float .f64 (Fl.W n))).run Tryd.prog w = .ok (.int .i64 n) w :=
  run_convert_float_int w 22 2 .f64 .i64 (Fl.W n) n (by rw [Tryd.underlying22]; rfl) Tryd.underlying2 (Fl.toIntVal_W hn)

end Go.Proofs.YtajmdpndbfmdmaaDoor
