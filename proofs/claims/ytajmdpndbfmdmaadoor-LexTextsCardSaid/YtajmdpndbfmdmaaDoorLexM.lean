/-
  bailifflaw03.same and wrong, where they answer yes.
-/
import Derived.Test.YtajmdpndbfmdmaaDoorLexL
import Derived.Deep.QuietTactic
import Derived.BigQuiet
namespace Go.Proofs.YtajmdpndbfmdmaaDoor
open Go Go.RowKit

/-- Two tokens but for places. -/
def AlikeT (a b : Lx.Tk) : Prop := a.1 = b.1 ∧ a.2.1 = b.2.1 ∧ Fl.feq a.2.2 b.2.2 = true ∧ a.2.2 < 18446744073709551616 ∧ b.2.2 < 18446744073709551616

set_option maxHeartbeats 4000000 in
set_option maxRecDepth 100000 in
theorem sameTok_nil (A B : Option Addr) (c d : Nat) (w : World) : Calls Tryd.prog 80 #[.slice A 0 c, .slice B 0 d] w fun e w' => e = .returned (.bool true) ∧ Below w.heap.size w w' := by
  go_enter Tryd.func80, Tryd.ntmps80
  go_wp2_with fail
  go_loopw [5] (fun i wr => i = .int .i64 0 ∧ wr = w) (fun _ _ => (0 : Nat))
  case atStart => exact ⟨rfl, rfl⟩
  case round =>
    obtain ⟨rfl, rfl⟩ := hrel
    go_wp2_with fail
    try rw [Exit.noGoto_ret]
    go_ret
    exact ⟨rfl, Below.refl _ _⟩

set_option maxHeartbeats 4000000 in
set_option maxRecDepth 100000 in
theorem sameTok_true (l1 l2 : List (Int × Lx.Tk)) (v1 v2 : Value) (w : World) (h1 : Toks w v1 l1) (h2 : Toks w v2 l2) (hlen : l1.length = l2.length) (hb : l1.length ≤ 100000)
    (hs : ∀ (i : Nat) (a b : Int × Lx.Tk), l1[i]? = some a → l2[i]? = some b → AlikeT a.2 b.2) :
    Calls Tryd.prog 80 #[v1, v2] w fun e w' => e = .returned (.bool true) ∧ Below w.heap.size w w' := by
  obtain ⟨A, c1, rfl, _, h1⟩ := h1
  obtain ⟨B, c2, rfl, _, h2⟩ := h2
  rw [← hlen]
  rcases h1 with ⟨rfl, _⟩ | ⟨g, o, rfl, hg, h1⟩
  · exact sameTok_nil _ _ _ _ w
  rcases h2 with ⟨rfl, _⟩ | ⟨q, r, rfl, hq, h2⟩
  · rw [show l1.length = 0 from hlen]; exact sameTok_nil _ _ _ _ w
  obtain ⟨n, hn⟩ : ∃ n, n = l1.length := ⟨_, rfl⟩
  rw [← hn] at hlen hb ⊢
  have h1' := Lib.hid h1
  have h2' := Lib.hid h2
  have hs' := Lib.hid hs
  have hnb : (n : Int) ≤ 100000 := by omega
  clear h1 h2 hs
  go_enter Tryd.func80, Tryd.ntmps80
  go_wp2_with fail
  go_loopw [5] (fun i wr => ∃ k : Nat, k ≤ n ∧ i = .int .i64 k ∧ Hid (Below w.heap.size w wr)) (fun i _ => ((n : Int) - intOf i).toNat)
  case atStart => exact ⟨0, by omega, rfl, Lib.hid (Below.refl _ _)⟩
  case round =>
    obtain ⟨k, hk, rfl, H⟩ := hrel
    by_cases c : (k : Int) < n
    · obtain ⟨a, ha⟩ : ∃ a, l1[k]? = some a := ⟨_, List.getElem?_eq_getElem (by omega)⟩
      obtain ⟨b, hb⟩ : ∃ b, l2[k]? = some b := ⟨_, List.getElem?_eq_getElem (by omega)⟩
      obtain ⟨e1, e2, e3, ea, eb⟩ := hs'.out k a b ha hb
      obtain ⟨d0, _, d2, d3⟩ := h1'.out k a ha
      obtain ⟨f0, _, f2, f3⟩ := h2'.out k b hb
      have en := Fl.ord_neq ea eb
      rw [e3] at en
      have x0 := (H.out.cell (p := ⟨g, o + k * 4, none⟩) hg).trans d0
      have x2 := (H.out.cell (p := ⟨g, o + k * 4 + 2, none⟩) hg).trans d2
      have x3 := (H.out.cell (p := ⟨g, o + k * 4 + 3, none⟩) hg).trans d3
      have y0 := (H.out.cell (p := ⟨q, r + k * 4, none⟩) hq).trans f0
      have y2 := (H.out.cell (p := ⟨q, r + k * 4 + 2, none⟩) hq).trans f2
      have y3 := (H.out.cell (p := ⟨q, r + k * 4 + 3, none⟩) hq).trans f3
      rw [← e1] at y0
      rw [← e2] at y2
      clear d0 d2 d3 f0 f2 f3 ea eb e1 e2 e3 ha hb
      go_wp2_with fail
      go_quiet (fail)
      go_wp2_with fail
      go_roundw
      case rel => exact ⟨k + 1, by omega, by go_num, Lib.hid (Below.drewN_ H.out _)⟩
      case measure => simp [intOf]; omega
    · go_wp2_with fail
      try rw [Exit.noGoto_ret]
      go_ret
      exact ⟨rfl, H.out⟩

theorem wrong_true (s : ByteArray) (p : Nat) (m : Int) (w : World) (hs : s.size ≤ 65536) (hm : w.cell? ⟨1, 0, none⟩ = some (.int .i64 m)) (hw : 1 < w.heap.size) (hL : Lx.Lexes s.data.toList ([], p, 5)) :
    Calls Tryd.prog 79 #[.string s, .int .i64 p] w fun e w' => e = .returned (.bool true) ∧ Below w.heap.size w w' := by
  have q := Lib.hid (lex_any s m w hs hm hw)
  have hL' := Lib.hid hL
  clear hL hm
  go_enter Tryd.func79, Tryd.ntmps79
  go_wp2_with fail
  refine q.out.mono ?_; rintro e w1 ⟨l, p', f, v, hl, rfl, hr, hb⟩
  have hd := Lx.Ends.det hl hL'.out
  injection hd with e1 e2
  injection e2 with e2 e3
  subst e1 e2 e3
  obtain ⟨A, c, rfl⟩ := hr.form
  have B1 := Lib.hid hb
  clear hb hr hl
  go_wp2
  go_ret
  exact ⟨rfl, B1.out⟩
end Go.Proofs.YtajmdpndbfmdmaaDoor
