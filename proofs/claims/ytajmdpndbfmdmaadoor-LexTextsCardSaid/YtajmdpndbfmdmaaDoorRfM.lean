/-
  bailiffref03.token at any byte. Conditions: a text of at most 70,000 bytes.
-/
import Derived.Test.YtajmdpndbfmdmaaDoorRfH
import Derived.Test.YtajmdpndbfmdmaaDoorRfK
namespace Go.Proofs.YtajmdpndbfmdmaaDoor
open Go Go.RowKit

theorem refToken_any (s : ByteArray) (p : Nat) (w : World) (hs : s.size ≤ 70000) (h0 : p < s.size) :
    Calls Tryd.prog 109 #[.string s, .int .i64 p] w (RTok (Lx.tokL (s.data.toList.drop p)) p w) := by
  cases hl : Lx.isL (s[p]'h0) with
  | true => exact rtok_letter s p w hs h0 hl
  | false =>
    cases hd : dig (s[p]'h0) with
    | true => exact rtok_digit s p w hs h0 hl hd
    | false =>
      cases hq : Lx.isQ (s[p]'h0) with
      | true =>
        by_cases hz : Lx.clos (s[p]'h0) (s.data.toList.drop (p + 1)) 1 = 0
        · exact rtok_quote0 s p w hs h0 hl hd hq hz
        · exact rtok_quote1 s p w hs h0 hl hd hq hz
      | false => exact rtok_sign s p w hs h0 hl hd hq
end Go.Proofs.YtajmdpndbfmdmaaDoor
