/-
  bailiffref01.Bits returns what the plain function of the words says. Conditions: the arguments are words of 64 bits.
-/
import Derived.Test.YtajmdpndbfmdmaaDoorNumE
namespace Go.Proofs.YtajmdpndbfmdmaaDoor
open Go Go.RowKit

theorem low_five' (b : Int) : b % 4294967296 % 32 = b % 32 := by omega
theorem shl_ref (a : Int) (k : Nat) : wrap32 ((a % 4294967296 * 2 ^ k) % 4294967296) = wrap32 (a * 2 ^ k) := by
  have h : (a % 4294967296 * 2 ^ k) % 4294967296 = (a * 2 ^ k) % 4294967296 := by
    rw [Int.mul_emod, Int.emod_emod, ← Int.mul_emod]
  unfold wrap32
  rw [h]
  omega

end Go.Proofs.YtajmdpndbfmdmaaDoor
