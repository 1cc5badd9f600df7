/-
  The walk of bailifflaw07.ValueSame. Conditions: the kinds are bytes, the numbers words of 64 bits, the places whole numbers of 64 bits; the table of powers of ten lies.
-/
import Derived.Test.YtajmdpndbfmdmaaDoorSamW1
import Derived.Test.YtajmdpndbfmdmaaDoorSamW2
import Derived.Test.YtajmdpndbfmdmaaDoorSamW3
import Derived.Test.YtajmdpndbfmdmaaDoorSamW4
import Derived.Test.YtajmdpndbfmdmaaDoorSamW5
namespace Go.Proofs.YtajmdpndbfmdmaaDoor
open Go Go.RowKit Go.BigFrame
set_option linter.unusedVariables false

theorem valueSame_walk (k : Int) (x : Nat) (s : ByteArray) (r : Int) (k' : Int) (x' : Nat) (s' : ByteArray) (r' : Int) (k'' : Int) (x'' : Nat) (s'' : ByteArray) (r'' : Int) (w : World) (hk : 0 ≤ k) (hk' : 0 ≤ k') (hk'' : 0 ≤ k'') (hx : x < 18446744073709551616) (hy : x' < 18446744073709551616) (hu : x'' < 18446744073709551616)
    (h0 : -9223372036854775808 ≤ r) (h1 : r ≤ 9223372036854775807) (h0' : -9223372036854775808 ≤ r') (h1' : r' ≤ 9223372036854775807) (htab : Lib.TabIs Tryd.prog w "internal/strconv.uint64pow10" .u64 Lib.pow10Tab) :
    Calls Tryd.prog 12 #[val k x s r, val k' x' s' r', val k'' x'' s'' r''] w fun e w' => e = .returned (.bool true) ∧ Below w.heap.size w w' := by
  by_cases hm : mayV k x s r = true ∧ mayV k' x' s' r' = true ∧ mayV k'' x'' s'' r'' = true
  · obtain ⟨ma, mb, mc⟩ := hm
    cases hA : sameV k x s r k' x' s' r' with
    | false =>
      cases ho : isObj k with
      | true => exact sam_f_oa k x s r k' x' s' r' k'' x'' s'' r'' w hk hk' hk'' hx hy hu ma mb mc h0 h1 h0' h1' htab hA (by have := isObj_true ho; omega) ho
      | false =>
        cases ho' : isObj k' with
        | true =>
          by_cases h3 : k = 3
          · exact sam_f_3b k x s r k' x' s' r' k'' x'' s'' r'' w hk hk' hk'' hx hy hu ma mb mc h0 h1 h0' h1' htab hA h3 ho ho'
          · exact sam_f_ob k x s r k' x' s' r' k'' x'' s'' r'' w hk hk' hk'' hx hy hu ma mb mc h0 h1 h0' h1' htab hA h3 ho ho'
        | false =>
          by_cases h3 : k = 3
          · exact sam_f_3n k x s r k' x' s' r' k'' x'' s'' r'' w hk hk' hk'' hx hy hu ma mb mc h0 h1 h0' h1' htab hA h3 ho ho'
          · exact sam_f_on k x s r k' x' s' r' k'' x'' s'' r'' w hk hk' hk'' hx hy hu ma mb mc h0 h1 h0' h1' htab hA h3 ho ho'
    | true =>
      have hA2 := same_iff.1 hA
      cases hB : sameV k' x' s' r' k'' x'' s'' r'' with
      | true =>
        cases ho : isObj k with
        | true =>
          have h3 : k ≠ 3 := by have := isObj_true ho; omega
          cases hD : (callsV k == callsV k') with
          | true => exact sam_ttt_oa k x s r k' x' s' r' k'' x'' s'' r'' w hk hk' hk'' hx hy hu ma mb mc h0 h1 h0' h1' htab hA hB hD h3 ho
          | false => exact sam_ttf_oa k x s r k' x' s' r' k'' x'' s'' r'' w hk hk' hk'' hx hy hu ma mb mc h0 h1 h0' h1' htab hA hB hD h3 ho
        | false =>
          have e : k = k' := by rcases hA2 with h | h; rw [h.1] at ho; cases ho; exact h.1
          have ho' : isObj k' = false := by rw [← e]; exact ho
          have hD : (callsV k == callsV k') = true := by rw [← e]; simp
          by_cases h3 : k = 3
          · cases hN : Fl.isN x with
            | true => exact sam_ttt_nn k x s r k' x' s' r' k'' x'' s'' r'' w hk hk' hk'' hx hy hu ma mb mc h0 h1 h0' h1' htab hA hB hD h3 hN ho ho'
            | false => exact sam_ttt_mn k x s r k' x' s' r' k'' x'' s'' r'' w hk hk' hk'' hx hy hu ma mb mc h0 h1 h0' h1' htab hA hB hD h3 hN ho ho'
          · exact sam_ttt_on k x s r k' x' s' r' k'' x'' s'' r'' w hk hk' hk'' hx hy hu ma mb mc h0 h1 h0' h1' htab hA hB hD h3 ho ho'
      | false =>
        cases ho : isObj k with
        | true =>
          have h3 : k ≠ 3 := by have := isObj_true ho; omega
          cases hD : (callsV k == callsV k') with
          | true => exact sam_tft_oa k x s r k' x' s' r' k'' x'' s'' r'' w hk hk' hk'' hx hy hu ma mb mc h0 h1 h0' h1' htab hA hB hD h3 ho
          | false => exact sam_tff_oa k x s r k' x' s' r' k'' x'' s'' r'' w hk hk' hk'' hx hy hu ma mb mc h0 h1 h0' h1' htab hA hB hD h3 ho
        | false =>
          have e : k = k' := by rcases hA2 with h | h; rw [h.1] at ho; cases ho; exact h.1
          have ho' : isObj k' = false := by rw [← e]; exact ho
          have hD : (callsV k == callsV k') = true := by rw [← e]; simp
          by_cases h3 : k = 3
          · cases hN : Fl.isN x with
            | true => exact sam_tft_nn k x s r k' x' s' r' k'' x'' s'' r'' w hk hk' hk'' hx hy hu ma mb mc h0 h1 h0' h1' htab hA hB hD h3 hN ho ho'
            | false => exact sam_tft_mn k x s r k' x' s' r' k'' x'' s'' r'' w hk hk' hk'' hx hy hu ma mb mc h0 h1 h0' h1' htab hA hB hD h3 hN ho ho'
          · exact sam_tft_on k x s r k' x' s' r' k'' x'' s'' r'' w hk hk' hk'' hx hy hu ma mb mc h0 h1 h0' h1' htab hA hB hD h3 ho ho'
  · exact sam_bad k x s r k' x' s' r' k'' x'' s'' r'' w hk hk' hk'' hx hy hu hm
end Go.Proofs.YtajmdpndbfmdmaaDoor
