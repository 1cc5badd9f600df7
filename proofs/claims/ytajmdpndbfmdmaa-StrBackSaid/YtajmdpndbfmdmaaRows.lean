/-
  No cell of these rows narrows 'for every input' (looked for: loops, veiled, ifaces, maps, wideKeys, modest, calm, conditions, laid).
  DERIVED. THE GIVEN ROWS OF THIS SEAT. 8 by the template 'for every input the law returns true; each argument reads behind the call as it read before'; 0 by the template 'total and deterministic' (their statements: YtajmdpndbfmdmaaTotals.lean).
  GIVEN WITH THE SEED: the statements are not yours to turn. If you find one false, say at which input.
  Laid BY PROGRAM, IN A SANDBOX (cutbox-rows.mjs): the forced cells as the released guide's own fill.sh prints them over the translation 5d1a037e2cd4a8b1… (all of the seat's roots in one cut). By AI agents, Wed Nov 11 2026. No macro, syntax, notation, axiom, sorry.
-/
import Derived.Test.YtajmdpndbfmdmaaChecked
import GoSem.Claim
import GoSem.ClaimJoined
import GoSem.ClaimMapViews
import Derived.JoinedTies
import Derived.KernelRfl
namespace Go.Proofs.Ytajmdpndbfmdmaa
/- THE CELL 'sum', in the pinned program and in every row, IS THE sha256 OF THE DUMP (.gsa) THAT YtajmdpndbfmdmaaProg.lean LOADS. Nothing in Lean hashes anything: it is a label: what it is worth is what the hold of that sum in a sandbox is worth. -/
noncomputable def Try.pinned : Pinned := { name := "ytajmdpndbfmdmaa", sum := "5d1a037e2cd4a8b175cb14a0dc667442add5e358744c7a34260878b2de7df9a7", checked := Try.checked }
namespace Rows
def none {H : Type} : Left H := { results := [], args := [] }

/-- 'bailifflaw07.ValueMade': WHATEVER THE INPUT: true; the input reads as it did. -/
def valueMadeSpec : ChangeSpec := { name := "valueMade", fn := fun _ => fun
  | [d1, d2, d3] => { results := [.lit (.bool true)], args := [d1, d2, d3] }
  | _ => none }
def valueMadeRow : OpenClaim := { program := "ytajmdpndbfmdmaa", sum := "5d1a037e2cd4a8b175cb14a0dc667442add5e358744c7a34260878b2de7df9a7", func := "bailiff/bailifflaw07.ValueMade", spec := "valueMade", apart := false }
def ValueMadeSaid : Prop := valueMadeRow.holds Try.pinned (OpenSpec.ofChange valueMadeSpec)

/-- ITS FALSE NEIGHBOUR: 'it returns false'. Refute it at one input. -/
def valueMadeWrong : ChangeSpec := { name := "valueMade", fn := fun _ => fun
  | [d1, d2, d3] => { results := [.lit (.bool false)], args := [d1, d2, d3] }
  | _ => none }
def ValueMadeWrongFalsely : Prop := valueMadeRow.holds Try.pinned (OpenSpec.ofChange valueMadeWrong)

/-- 'bailifflaw01.NumRow': WHATEVER THE INPUT: true; the input reads as it did. -/
def numRowSpec : ChangeSpec := { name := "numRow", fn := fun _ => fun
  | [d1, d2] => { results := [.lit (.bool true)], args := [d1, d2] }
  | _ => none }
def numRowRow : OpenClaim := { program := "ytajmdpndbfmdmaa", sum := "5d1a037e2cd4a8b175cb14a0dc667442add5e358744c7a34260878b2de7df9a7", func := "bailiff/bailifflaw01.NumRow", spec := "numRow", inPlace := ["math.archTrunc", "math.Float64bits", "math.Float64frombits"], apart := false }
def NumRowSaid : Prop := numRowRow.holds Try.pinned (OpenSpec.ofChange numRowSpec)

/-- ITS FALSE NEIGHBOUR: 'it returns false'. Refute it at one input. -/
def numRowWrong : ChangeSpec := { name := "numRow", fn := fun _ => fun
  | [d1, d2] => { results := [.lit (.bool false)], args := [d1, d2] }
  | _ => none }
def NumRowWrongFalsely : Prop := numRowRow.holds Try.pinned (OpenSpec.ofChange numRowWrong)

/-- 'bailifflaw01.NumBits': WHATEVER THE INPUT: true; the input reads as it did. -/
def numBitsSpec : ChangeSpec := { name := "numBits", fn := fun _ => fun
  | [d1, d2, d3] => { results := [.lit (.bool true)], args := [d1, d2, d3] }
  | _ => none }
def numBitsRow : OpenClaim := { program := "ytajmdpndbfmdmaa", sum := "5d1a037e2cd4a8b175cb14a0dc667442add5e358744c7a34260878b2de7df9a7", func := "bailiff/bailifflaw01.NumBits", spec := "numBits", inPlace := ["math.archTrunc", "math.Float64bits", "math.Float64frombits"], apart := false }
def NumBitsSaid : Prop := numBitsRow.holds Try.pinned (OpenSpec.ofChange numBitsSpec)

/-- ITS FALSE NEIGHBOUR: 'it returns false'. Refute it at one input. -/
def numBitsWrong : ChangeSpec := { name := "numBits", fn := fun _ => fun
  | [d1, d2, d3] => { results := [.lit (.bool false)], args := [d1, d2, d3] }
  | _ => none }
def NumBitsWrongFalsely : Prop := numBitsRow.holds Try.pinned (OpenSpec.ofChange numBitsWrong)

/-- 'bailifflaw02.StrTexts': WHATEVER THE INPUT: true; the input reads as it did. -/
def strTextsSpec : ChangeSpec := { name := "strTexts", fn := fun _ => fun
  | [d] => { results := [.lit (.bool true)], args := [d] }
  | _ => none }
def strTextsRow : OpenClaim := { program := "ytajmdpndbfmdmaa", sum := "5d1a037e2cd4a8b175cb14a0dc667442add5e358744c7a34260878b2de7df9a7", func := "bailiff/bailifflaw02.StrTexts", spec := "strTexts", inPlace := ["internal/abi.NoEscape"], apart := false }
def StrTextsSaid : Prop := strTextsRow.holds Try.pinned (OpenSpec.ofChange strTextsSpec)

/-- ITS FALSE NEIGHBOUR: 'it returns false'. Refute it at one input. -/
def strTextsWrong : ChangeSpec := { name := "strTexts", fn := fun _ => fun
  | [d] => { results := [.lit (.bool false)], args := [d] }
  | _ => none }
def StrTextsWrongFalsely : Prop := strTextsRow.holds Try.pinned (OpenSpec.ofChange strTextsWrong)

/-- 'bailifflaw02.StrMade': WHATEVER THE INPUT: true; the input reads as it did. -/
def strMadeSpec : ChangeSpec := { name := "strMade", fn := fun _ => fun
  | [d1, d2, d3] => { results := [.lit (.bool true)], args := [d1, d2, d3] }
  | _ => none }
def strMadeRow : OpenClaim := { program := "ytajmdpndbfmdmaa", sum := "5d1a037e2cd4a8b175cb14a0dc667442add5e358744c7a34260878b2de7df9a7", func := "bailiff/bailifflaw02.StrMade", spec := "strMade", inPlace := ["internal/abi.NoEscape", "internal/bytealg.MakeNoZero"], apart := false }
def StrMadeSaid : Prop := strMadeRow.holds Try.pinned (OpenSpec.ofChange strMadeSpec)

/-- ITS FALSE NEIGHBOUR: 'it returns false'. Refute it at one input. -/
def strMadeWrong : ChangeSpec := { name := "strMade", fn := fun _ => fun
  | [d1, d2, d3] => { results := [.lit (.bool false)], args := [d1, d2, d3] }
  | _ => none }
def StrMadeWrongFalsely : Prop := strMadeRow.holds Try.pinned (OpenSpec.ofChange strMadeWrong)

/-- 'bailifflaw02.StrBack': WHATEVER THE INPUT: true; the input reads as it did. -/
def strBackSpec : ChangeSpec := { name := "strBack", fn := fun _ => fun
  | [d] => { results := [.lit (.bool true)], args := [d] }
  | _ => none }
def strBackRow : OpenClaim := { program := "ytajmdpndbfmdmaa", sum := "5d1a037e2cd4a8b175cb14a0dc667442add5e358744c7a34260878b2de7df9a7", func := "bailiff/bailifflaw02.StrBack", spec := "strBack", inPlace := ["math.archTrunc", "math.Float64bits", "math.Float64frombits", "internal/abi.NoEscape"], apart := false }
def StrBackSaid : Prop := strBackRow.holds Try.pinned (OpenSpec.ofChange strBackSpec)

/-- ITS FALSE NEIGHBOUR: 'it returns false'. Refute it at one input. -/
def strBackWrong : ChangeSpec := { name := "strBack", fn := fun _ => fun
  | [d] => { results := [.lit (.bool false)], args := [d] }
  | _ => none }
def StrBackWrongFalsely : Prop := strBackRow.holds Try.pinned (OpenSpec.ofChange strBackWrong)

/-- 'bailifflaw01.NumBack': WHATEVER THE INPUT: true; the input reads as it did. -/
def numBackSpec : ChangeSpec := { name := "numBack", fn := fun _ => fun
  | [d1, d2] => { results := [.lit (.bool true)], args := [d1, d2] }
  | _ => none }
def numBackRow : OpenClaim := { program := "ytajmdpndbfmdmaa", sum := "5d1a037e2cd4a8b175cb14a0dc667442add5e358744c7a34260878b2de7df9a7", func := "bailiff/bailifflaw01.NumBack", spec := "numBack", inPlace := ["math.archTrunc", "math.Float64bits", "math.Float64frombits"], apart := false }
def NumBackSaid : Prop := numBackRow.holds Try.pinned (OpenSpec.ofChange numBackSpec)

/-- ITS FALSE NEIGHBOUR: 'it returns false'. Refute it at one input. -/
def numBackWrong : ChangeSpec := { name := "numBack", fn := fun _ => fun
  | [d1, d2] => { results := [.lit (.bool false)], args := [d1, d2] }
  | _ => none }
def NumBackWrongFalsely : Prop := numBackRow.holds Try.pinned (OpenSpec.ofChange numBackWrong)

/-- 'bailifflaw01.NumSums': WHATEVER THE INPUT: true; the input reads as it did. -/
def numSumsSpec : ChangeSpec := { name := "numSums", fn := fun _ => fun
  | [d1, d2] => { results := [.lit (.bool true)], args := [d1, d2] }
  | _ => none }
def numSumsRow : OpenClaim := { program := "ytajmdpndbfmdmaa", sum := "5d1a037e2cd4a8b175cb14a0dc667442add5e358744c7a34260878b2de7df9a7", func := "bailiff/bailifflaw01.NumSums", spec := "numSums", inPlace := ["math.archTrunc", "math.Float64bits", "math.Float64frombits"], apart := false }
def NumSumsSaid : Prop := numSumsRow.holds Try.pinned (OpenSpec.ofChange numSumsSpec)

/-- ITS FALSE NEIGHBOUR: 'it returns false'. Refute it at one input. -/
def numSumsWrong : ChangeSpec := { name := "numSums", fn := fun _ => fun
  | [d1, d2] => { results := [.lit (.bool false)], args := [d1, d2] }
  | _ => none }
def NumSumsWrongFalsely : Prop := numSumsRow.holds Try.pinned (OpenSpec.ofChange numSumsWrong)

/- THE SECOND FORM. 'bulk': how many values and letters a reading holds, each counted each time it is reached (what is shared counts as often as it is met; a slice's spare places count too). A statement '..UptoSaid' is the law's where the arguments, and the package variables that the reading takes, are together of bulk at most 1048576: NARROWER than '..Said'. Prove '..Said' where nothing that the law and all that it calls make is longer than what came in: it says more and counts as full. Else prove '..UptoSaid'. A law counts once. -/
mutual
def uptoBulk {H : Type} : DataW H → Nat
  | .lit (.string bytes) => bytes.length + 1
  | .lit _ => 1
  | .nil => 1
  | .ptr d => uptoBulk d + 1
  | .slice elems spare => uptoBulkAll elems + uptoBulkAll spare + 1
  | .agg parts => uptoBulkAll parts + 1
  | .iface _ d => uptoBulk d + 1
  | .map entries => uptoBulkEntries entries + 1
  | .held _ => 1
def uptoBulkAll {H : Type} : List (DataW H) → Nat
  | [] => 0
  | d :: r => uptoBulk d + uptoBulkAll r
def uptoBulkEntries {H : Type} : List (Lit × DataW H) → Nat
  | [] => 0
  | x :: r => uptoBulkEntry x + uptoBulkEntries r
def uptoBulkEntry {H : Type} : Lit × DataW H → Nat
  | (.string bytes, d) => bytes.length + uptoBulk d + 1
  | (_, d) => uptoBulk d + 1
 end
def uptoSmall : (H : Type) → List (DataW H) → Bool := fun _ ds => decide (uptoBulkAll ds ≤ 1048576)
def OpenSpec.upto (s : _root_.Go.ChangeSpec) : _root_.Go.OpenSpec := { _root_.Go.OpenSpec.ofChange s with cond := some uptoSmall }

/-- 'bailifflaw07.ValueMade', WHERE WHAT IT READS IS OF BULK AT MOST 1048576: true; the input reads as it did. -/
def valueMadeUptoRow : OpenClaim := { program := "ytajmdpndbfmdmaa", sum := "5d1a037e2cd4a8b175cb14a0dc667442add5e358744c7a34260878b2de7df9a7", func := "bailiff/bailifflaw07.ValueMade", spec := "valueMade", apart := false, narrowed := true }
def ValueMadeUptoSaid : Prop := valueMadeUptoRow.holds Try.pinned (OpenSpec.upto valueMadeSpec)

/-- 'bailifflaw01.NumRow', WHERE WHAT IT READS IS OF BULK AT MOST 1048576: true; the input reads as it did. -/
def numRowUptoRow : OpenClaim := { program := "ytajmdpndbfmdmaa", sum := "5d1a037e2cd4a8b175cb14a0dc667442add5e358744c7a34260878b2de7df9a7", func := "bailiff/bailifflaw01.NumRow", spec := "numRow", inPlace := ["math.archTrunc", "math.Float64bits", "math.Float64frombits"], apart := false, narrowed := true }
def NumRowUptoSaid : Prop := numRowUptoRow.holds Try.pinned (OpenSpec.upto numRowSpec)

/-- 'bailifflaw01.NumBits', WHERE WHAT IT READS IS OF BULK AT MOST 1048576: true; the input reads as it did. -/
def numBitsUptoRow : OpenClaim := { program := "ytajmdpndbfmdmaa", sum := "5d1a037e2cd4a8b175cb14a0dc667442add5e358744c7a34260878b2de7df9a7", func := "bailiff/bailifflaw01.NumBits", spec := "numBits", inPlace := ["math.archTrunc", "math.Float64bits", "math.Float64frombits"], apart := false, narrowed := true }
def NumBitsUptoSaid : Prop := numBitsUptoRow.holds Try.pinned (OpenSpec.upto numBitsSpec)

/-- 'bailifflaw02.StrTexts', WHERE WHAT IT READS IS OF BULK AT MOST 1048576: true; the input reads as it did. -/
def strTextsUptoRow : OpenClaim := { program := "ytajmdpndbfmdmaa", sum := "5d1a037e2cd4a8b175cb14a0dc667442add5e358744c7a34260878b2de7df9a7", func := "bailiff/bailifflaw02.StrTexts", spec := "strTexts", inPlace := ["internal/abi.NoEscape"], apart := false, narrowed := true }
def StrTextsUptoSaid : Prop := strTextsUptoRow.holds Try.pinned (OpenSpec.upto strTextsSpec)

/-- 'bailifflaw02.StrMade', WHERE WHAT IT READS IS OF BULK AT MOST 1048576: true; the input reads as it did. -/
def strMadeUptoRow : OpenClaim := { program := "ytajmdpndbfmdmaa", sum := "5d1a037e2cd4a8b175cb14a0dc667442add5e358744c7a34260878b2de7df9a7", func := "bailiff/bailifflaw02.StrMade", spec := "strMade", inPlace := ["internal/abi.NoEscape", "internal/bytealg.MakeNoZero"], apart := false, narrowed := true }
def StrMadeUptoSaid : Prop := strMadeUptoRow.holds Try.pinned (OpenSpec.upto strMadeSpec)

/-- 'bailifflaw02.StrBack', WHERE WHAT IT READS IS OF BULK AT MOST 1048576: true; the input reads as it did. -/
def strBackUptoRow : OpenClaim := { program := "ytajmdpndbfmdmaa", sum := "5d1a037e2cd4a8b175cb14a0dc667442add5e358744c7a34260878b2de7df9a7", func := "bailiff/bailifflaw02.StrBack", spec := "strBack", inPlace := ["math.archTrunc", "math.Float64bits", "math.Float64frombits", "internal/abi.NoEscape"], apart := false, narrowed := true }
def StrBackUptoSaid : Prop := strBackUptoRow.holds Try.pinned (OpenSpec.upto strBackSpec)

/-- 'bailifflaw01.NumBack', WHERE WHAT IT READS IS OF BULK AT MOST 1048576: true; the input reads as it did. -/
def numBackUptoRow : OpenClaim := { program := "ytajmdpndbfmdmaa", sum := "5d1a037e2cd4a8b175cb14a0dc667442add5e358744c7a34260878b2de7df9a7", func := "bailiff/bailifflaw01.NumBack", spec := "numBack", inPlace := ["math.archTrunc", "math.Float64bits", "math.Float64frombits"], apart := false, narrowed := true }
def NumBackUptoSaid : Prop := numBackUptoRow.holds Try.pinned (OpenSpec.upto numBackSpec)

/-- 'bailifflaw01.NumSums', WHERE WHAT IT READS IS OF BULK AT MOST 1048576: true; the input reads as it did. -/
def numSumsUptoRow : OpenClaim := { program := "ytajmdpndbfmdmaa", sum := "5d1a037e2cd4a8b175cb14a0dc667442add5e358744c7a34260878b2de7df9a7", func := "bailiff/bailifflaw01.NumSums", spec := "numSums", inPlace := ["math.archTrunc", "math.Float64bits", "math.Float64frombits"], apart := false, narrowed := true }
def NumSumsUptoSaid : Prop := numSumsUptoRow.holds Try.pinned (OpenSpec.upto numSumsSpec)

end Rows
end Go.Proofs.Ytajmdpndbfmdmaa
