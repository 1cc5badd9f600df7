/-
  The walk of bailifflaw02.StrPlaces. Conditions: the cell of internal/bytealg.MaxLen holds a whole number.
-/
import Derived.Test.YtajmdpndbfmdmaaDoorPlaD
import Derived.Test.YtajmdpndbfmdmaaDoorNumA
namespace Go.Proofs.YtajmdpndbfmdmaaDoor
open Go Go.RowKit

theorem dw_le (p : UInt8 → Bool) (l : List UInt8) : (l.dropWhile p).length ≤ l.length := (List.dropWhile_suffix p).length_le
theorem trimV_le (s : ByteArray) : (trimV s).size ≤ s.size := by
  rw [← size_list, ← size_list s]
  unfold trimV Lib.trimS Lib.trimLeftS Lib.trimRightS
  rw [strOf_list]
  refine Nat.le_trans (dw_le _ _) ?_
  rw [List.length_reverse]
  refine Nat.le_trans (dw_le _ _) ?_
  rw [List.length_reverse]
  exact Nat.le_refl _

theorem word_of_wf {a : Nat} (h : (Lit.float .f64 a).wf = true) : a < 18446744073709551616 := by
  simp only [Lit.wf, decide_eq_true_eq] at h; exact h

set_option maxHeartbeats 2000000 in
set_option maxRecDepth 100000 in
theorem strPlaces_walk (s t : ByteArray) (i : Int) (x y : Nat) (_w0 : s.size ≤ maxLen) (_w1 : t.size ≤ maxLen) (w2 : (Lit.int .i64 i).wf = true) (w3 : (Lit.float .f64 x).wf = true) (w4 : (Lit.float .f64 y).wf = true)
    (w : World) (m : Int) (hm : w.cell? ⟨1, 0, none⟩ = some (.int .i64 m)) :
    Calls Tryd.prog 4 #[.string s, .string t, .int .i64 i, .float .f64 x, .float .f64 y] w fun e w' => e = .returned (.bool true) ∧ Below w.heap.size w w' := by
  have hi : -9223372036854775808 ≤ i ∧ i ≤ 9223372036854775807 := by simpa [Lit.wf, IntKind.min, IntKind.max, IntKind.signed, IntKind.bits] using w2
  obtain ⟨hi0, hi1⟩ := hi
  have hx := word_of_wf w3
  have hy := word_of_wf w4
  clear w2 w3 w4
  by_cases c1 : 9000 < s.size
  · have d1 : 9000 < (s.size : Int) := by omega
    clear hm
    go_enter Tryd.func4, Tryd.ntmps4
    go_wp2
    go_ret
    exact ⟨rfl, Below.refl _ _⟩
  · have d1 : ¬ 9000 < (s.size : Int) := by omega
    by_cases c2 : 9000 < t.size
    · have d2 : 9000 < (t.size : Int) := by omega
      clear hm
      go_enter Tryd.func4, Tryd.ntmps4
      go_wp2
      go_ret
      exact ⟨rfl, Below.refl _ _⟩
    · have d2 : ¬ 9000 < (t.size : Int) := by omega
      have q1 := Lib.hid (fun w' => at_any s i w' (by omega))
      have q2 := Lib.hid (fun w' => refAt_any s i w' (by omega))
      have q3 := Lib.hid (fun w' => part_any s x y w' (by omega) hx hy)
      have q4 := Lib.hid (fun w' => refPart_any s x y w' (by omega) hx hy)
      have q5 := Lib.hid (find_any s t i m w (by omega) hi0 hi1 hm)
      have q6 := Lib.hid (fun w' => refFind_any s t i w' (by omega) (by omega) hi0 hi1)
      have q7 := Lib.hid (fun w' => less_str s t w')
      have q8 := Lib.hid (fun w' => refLess_str s t w' (by omega) (by omega))
      have q9 := Lib.hid (fun w' => trim_str s w' (by omega))
      have qa := Lib.hid (fun w' => refTrim_str s w' (by omega))
      generalize atS s i = v1 at q1 q2
      obtain ⟨v1, v2⟩ := v1
      generalize partS s x y = v3 at q3 q4
      generalize findS s t i = v5 at q5 q6
      generalize lessV s t = v7 at q7 q8
      generalize trimV s = v9 at q9 qa
      clear hm c1 c2
      go_enter Tryd.func4, Tryd.ntmps4
      go_wp2_with fail
      refine (q1.out _).mono ?_; rintro e w' ⟨rfl, rfl⟩
      go_wp2_with fail
      refine (q2.out _).mono ?_; rintro e w' ⟨rfl, rfl⟩
      go_wp2_with fail
      refine (q3.out _).mono ?_; rintro e w' ⟨rfl, rfl⟩
      go_wp2_with fail
      refine (q4.out _).mono ?_; rintro e w' ⟨rfl, rfl⟩
      go_wp2_with fail
      refine q5.out.mono ?_; rintro e w' ⟨rfl, rfl⟩
      go_wp2_with fail
      refine (q6.out _).mono ?_; rintro e w' ⟨rfl, rfl⟩
      go_wp2_with fail
      refine (q7.out _).mono ?_; rintro e w' ⟨rfl, rfl⟩
      go_wp2_with fail
      refine (q8.out _).mono ?_; rintro e w1 ⟨rfl, b1⟩
      have B1 := Lib.hid b1
      clear b1
      go_wp2_with fail
      refine (q9.out _).mono ?_; rintro e w2 ⟨rfl, b2⟩
      have B2 := Lib.hid (B1.out.trans (b2.mono B1.out.size))
      clear b2
      go_wp2_with fail
      refine (qa.out _).mono ?_; rintro e w' ⟨rfl, rfl⟩
      go_wp2
      go_ret
      exact ⟨by simp, B2.out⟩
end Go.Proofs.YtajmdpndbfmdmaaDoor
