/-
  Small facts for the walk of bailiffref03.token at a quote.
-/
import Derived.Test.YtajmdpndbfmdmaaDoorRfG
import Derived.Test.YtajmdpndbfmdmaaDoorRfP
namespace Go.Proofs.YtajmdpndbfmdmaaDoor
open Go Go.RowKit

theorem u8_ne {a b : UInt8} (h : a ≠ b) : ¬ (a.toNat : Int) = (b.toNat : Int) := fun e => h (by rw [← UInt8.ofNat_toNat (x := a), ← UInt8.ofNat_toNat (x := b), show a.toNat = b.toNat from by omega])
theorem bne_t {a b : Int} (h : ¬ a = b) : (a != b) = true := by rw [bne_iff_ne]; exact h
theorem eol_no {a : UInt8} (h : Lx.eol a = false) : ¬ (a.toNat : Int) = 10 ∧ ¬ (a.toNat : Int) = 13 := by
  unfold Lx.eol at h; simp at h; omega
theorem eol_yes {a : UInt8} (h : Lx.eol a = true) : (a.toNat : Int) = 10 ∨ (¬ (a.toNat : Int) = 10 ∧ (a.toNat : Int) = 13) := by
  unfold Lx.eol at h; simp at h; omega
theorem extract_in (s : ByteArray) (p n : Nat) : strOf ((s.data.toList.drop (p + 1)).take (n - 1)) = s.extract (p + 1) (p + n) := (strOf_inj (by rw [Lib.extract_data, show p + n - (p + 1) = n - 1 from by omega])).symm

end Go.Proofs.YtajmdpndbfmdmaaDoor
