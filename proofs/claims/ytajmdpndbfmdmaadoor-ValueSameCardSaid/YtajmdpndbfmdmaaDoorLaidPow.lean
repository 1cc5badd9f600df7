/-
  From a row's list of Go's tables to the table of powers of ten. Conditions: the list holds it.
-/
import Derived.Test.YtajmdpndbfmdmaaDoorLaid
import Derived.LaidSub
import Derived.Lib.ItoaNum
namespace Go.Proofs.YtajmdpndbfmdmaaDoor
open Go

theorem pow_data : (Rows.laid_internal_strconv_uint64pow10 : DataW Unit) = Lib.tabData .u64 Lib.pow10Tab := by kernel_rfl
theorem pow_tab {laid : List (String × DataW Unit)} {W : World} (h : laidMetH Tryd.prog laid W) (hf : laid.filter (fun x => x.1 == "internal/strconv.uint64pow10") = [("internal/strconv.uint64pow10", Rows.laid_internal_strconv_uint64pow10)]) :
    Lib.TabIs Tryd.prog W "internal/strconv.uint64pow10" .u64 Lib.pow10Tab := by
  have h2 := h.filter (fun x => x.1 == "internal/strconv.uint64pow10")
  rw [hf, pow_data] at h2
  exact Lib.tabIs_of_head (rest := []) (g := 2) (t := 162) (e := 130) (n := 20) (by kernel_rfl) (by kernel_rfl) Tryd.underlying162 Tryd.underlying130 (by kernel_rfl) (by kernel_rfl) h2
end Go.Proofs.YtajmdpndbfmdmaaDoor
