/-
  The walk of bailifflaw02.StrTexts. Conditions: none beyond the statement's own.
-/
import Derived.Test.YtajmdpndbfmdmaaStrF
namespace Go.Proofs.Ytajmdpndbfmdmaa
open Go Go.RowKit

theorem plainV_p (s : ByteArray) : ∃ p q r, plainV s = (p, q, r) := ⟨_, _, _, rfl⟩

set_option maxHeartbeats 2000000 in
set_option maxRecDepth 100000 in
theorem strTexts_walk (s : ByteArray) (_w0 : s.size ≤ maxLen) (w : World) :
    Calls Try.prog 6 #[.string s] w fun e w' => e = .returned (.bool true) ∧ Below w.heap.size w w' := by
  have q1 := Lib.hid (fun w' => plain_any s w')
  have q2 := Lib.hid (fun w' => refPlain_any s w')
  obtain ⟨p, q, r, hV⟩ := plainV_p s
  rw [hV] at q1 q2
  clear hV
  by_cases c1 : 9000 < s.size
  · have d1 : 9000 < (s.size : Int) := by omega
    by_cases c2 : s.size ≤ 65536
    · have d2 : (s.size : Int) ≤ 65536 := by omega
      clear c1 c2 q1 q2
      go_enter Try.func6, Try.ntmps6
      go_wp2
      go_ret
      exact ⟨rfl, Below.refl _ _⟩
    · have d2 : ¬ (s.size : Int) ≤ 65536 := by omega
      by_cases c3 : 70000 < s.size
      · have d3 : 70000 < (s.size : Int) := by omega
        clear c1 c2 c3 q1 q2
        go_enter Try.func6, Try.ntmps6
        go_wp2
        go_ret
        exact ⟨rfl, Below.refl _ _⟩
      · have d3 : ¬ 70000 < (s.size : Int) := by omega
        clear c1 c2 c3
        go_enter Try.func6, Try.ntmps6
        go_wp2_with fail
        refine (q1.out _).mono ?_; rintro e w1 ⟨rfl, b1⟩
        have B1 := Lib.hid b1
        clear b1
        go_wp2_with fail
        refine (q2.out _).mono ?_; rintro e w2 ⟨rfl, b2⟩
        have B2 := Lib.hid (B1.out.trans (b2.mono B1.out.size))
        clear b2
        go_wp2
        go_ret
        exact ⟨by simp, B2.out⟩
  · have d1 : ¬ 9000 < (s.size : Int) := by omega
    have d3 : ¬ 70000 < (s.size : Int) := by omega
    have q3 := Lib.hid (fun w' => quote_any s w' (by omega))
    have q4 := Lib.hid (fun w' => refQuote_any s w' (by omega))
    clear c1
    go_enter Try.func6, Try.ntmps6
    go_wp2_with fail
    refine (q1.out _).mono ?_; rintro e w1 ⟨rfl, b1⟩
    have B1 := Lib.hid b1
    clear b1
    go_wp2_with fail
    refine (q2.out _).mono ?_; rintro e w2 ⟨rfl, b2⟩
    have B2 := Lib.hid (B1.out.trans (b2.mono B1.out.size))
    clear b2
    go_wp2_with fail
    refine (q3.out _).mono ?_; rintro e w3 ⟨rfl, b3⟩
    have B3 := Lib.hid (B2.out.trans (b3.mono B2.out.size))
    clear b3
    go_wp2_with fail
    refine (q4.out _).mono ?_; rintro e w4 ⟨rfl, rfl⟩
    go_wp2
    go_ret
    exact ⟨by simp, B3.out⟩
end Go.Proofs.Ytajmdpndbfmdmaa
