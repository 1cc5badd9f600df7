/-
  bailifflaw03.token, alive, only and wrong. Conditions: texts of at most 65,536 bytes; the cell of internal/bytealg.MaxLen holds a whole number.
-/
import Derived.Test.YtajmdpndbfmdmaaDoorLexE
import Derived.Test.YtajmdpndbfmdmaaDoorValB
import Derived.Deep.RegionHeld3
namespace Go.Proofs.YtajmdpndbfmdmaaDoor
open Go Go.RowKit

/-- The parts of a row that is not empty. -/
theorem Row.at {base : Nat} {v : Value} {x : Nat × Lx.Tk} {l : List (Nat × Lx.Tk)} {w : World} (h : Row base v (x :: l) w) :
    ∃ g cap, v = .slice (some ⟨g, 0, none⟩) (x :: l).length cap ∧ base ≤ g ∧ g < w.heap.size ∧ (∀ j u, (tkRow (x :: l))[j]? = some u → w.cell? ⟨g, j, none⟩ = some u) ∧ (x :: l).length ≤ cap := by
  rcases h.2 with ⟨_, e⟩ | ⟨g, cap, cur, rfl, hb, hh, h1, h2⟩
  · cases e
  · have hlt : g < w.heap.size := by
      rcases Nat.lt_or_ge g w.heap.size with hlt | hge
      · exact hlt
      · rw [Array.getElem?_eq_none hge] at hh; cases hh
    refine ⟨g, cap, rfl, hb, hlt, fun j u hj => ?_, h1⟩
    have := World.ownsRow.cells h (g := g) rfl j u hj
    rwa [Lib.add_plain, Nat.zero_add] at this

theorem lawTok_any (k : Int) (s : ByteArray) (a : Int) (w : World) :
    Calls Tryd.prog 112 #[.int .u8 k, .string s, .int .i64 a] w fun e w' => e = .returned (tkA k a s 0) ∧ Below w.heap.size w w' := by
  go_enter Tryd.func112, Tryd.ntmps112
  go_wp2
  exact bodyPost_ret (v := tkA k a s 0) (by simp [tkA, results, Tryd.results112, go_sem]) rfl ⟨rfl, below_one⟩

theorem only_true (s : ByteArray) (k : Nat) (T : ByteArray) (p1 p2 x : Nat) (m : Int) (w : World) (hs : s.size ≤ 65536) (hm : w.cell? ⟨1, 0, none⟩ = some (.int .i64 m)) (hw : 1 < w.heap.size)
    (hL : Lx.Lexes s.data.toList ([(p1, k, T.data.toList, x), (p2, 0, [], 0)], 0, 0)) :
    Calls Tryd.prog 58 #[.string s, .int .u8 k, .string T] w fun e w' => e = .returned (.bool true) ∧ Below w.heap.size w w' := by
  have q := Lib.hid (lex_any s m w hs hm hw)
  have hL' := Lib.hid hL
  have hT := Lib.hid (show strOf T.data.toList = T from (strOf_inj rfl).symm)
  clear hL hm
  go_enter Tryd.func58, Tryd.ntmps58
  go_wp2_with fail
  refine q.out.mono ?_; rintro e w1 ⟨l, p, f, v, hl, rfl, hr, hb⟩
  have hd := Lx.Ends.det hl hL'.out
  injection hd with e1 e2
  injection e2 with e2 e3
  subst e1 e2 e3
  obtain ⟨g, cap, rfl, hg, hlt, hcell, hcap⟩ := hr.at
  have c0 : w1.cell? ⟨g, 0, none⟩ = some (.int .u8 k) := hcell 0 _ rfl
  have c2 : w1.cell? ⟨g, 2, none⟩ = some (.string T) := by rw [hcell 2 (.string (strOf T.data.toList)) rfl, hT.out]
  have B1 := Lib.hid hb
  clear hb hr hl hcell hg hcap
  go_wp2
  go_ret
  exact ⟨rfl, B1.out⟩

theorem alive_lex : Lx.Lexes [108, 101, 116, 32, 120, 61, 49, 59] ([(0, 2, [108, 101, 116], 0), (4, 1, [120], 0), (5, 5, [61], 0), (6, 3, [], 4607182418800017408), (7, 5, [59], 0), (8, 0, [], 0)], 0, 0) := ⟨20, by kernel_rfl⟩

theorem keep_alive {w w1 w2 : World} {g : Nat} {u0 u1 u2 u3 u4 u5 u6 u7 u8 u9 u10 u11 u12 u13 u14 u15 u16 u17 u18 u19 u20 u21 u22 u23 : Option Value}
    (h : w1.cell? ⟨g, 0, none⟩ = u0 ∧ w1.cell? ⟨g, 1, none⟩ = u1 ∧ w1.cell? ⟨g, 2, none⟩ = u2 ∧ w1.cell? ⟨g, 3, none⟩ = u3 ∧ w1.cell? ⟨g, 4, none⟩ = u4 ∧ w1.cell? ⟨g, 5, none⟩ = u5 ∧ w1.cell? ⟨g, 6, none⟩ = u6 ∧ w1.cell? ⟨g, 7, none⟩ = u7 ∧ w1.cell? ⟨g, 8, none⟩ = u8 ∧ w1.cell? ⟨g, 9, none⟩ = u9 ∧ w1.cell? ⟨g, 10, none⟩ = u10 ∧ w1.cell? ⟨g, 11, none⟩ = u11 ∧ w1.cell? ⟨g, 12, none⟩ = u12 ∧ w1.cell? ⟨g, 13, none⟩ = u13 ∧ w1.cell? ⟨g, 14, none⟩ = u14 ∧ w1.cell? ⟨g, 15, none⟩ = u15 ∧ w1.cell? ⟨g, 16, none⟩ = u16 ∧ w1.cell? ⟨g, 17, none⟩ = u17 ∧ w1.cell? ⟨g, 18, none⟩ = u18 ∧ w1.cell? ⟨g, 19, none⟩ = u19 ∧ w1.cell? ⟨g, 20, none⟩ = u20 ∧ w1.cell? ⟨g, 21, none⟩ = u21 ∧ w1.cell? ⟨g, 22, none⟩ = u22 ∧ w1.cell? ⟨g, 23, none⟩ = u23 ∧ g < w1.heap.size ∧ Below w.heap.size w w1) (b : Below w1.heap.size w1 w2) :
    w2.cell? ⟨g, 0, none⟩ = u0 ∧ w2.cell? ⟨g, 1, none⟩ = u1 ∧ w2.cell? ⟨g, 2, none⟩ = u2 ∧ w2.cell? ⟨g, 3, none⟩ = u3 ∧ w2.cell? ⟨g, 4, none⟩ = u4 ∧ w2.cell? ⟨g, 5, none⟩ = u5 ∧ w2.cell? ⟨g, 6, none⟩ = u6 ∧ w2.cell? ⟨g, 7, none⟩ = u7 ∧ w2.cell? ⟨g, 8, none⟩ = u8 ∧ w2.cell? ⟨g, 9, none⟩ = u9 ∧ w2.cell? ⟨g, 10, none⟩ = u10 ∧ w2.cell? ⟨g, 11, none⟩ = u11 ∧ w2.cell? ⟨g, 12, none⟩ = u12 ∧ w2.cell? ⟨g, 13, none⟩ = u13 ∧ w2.cell? ⟨g, 14, none⟩ = u14 ∧ w2.cell? ⟨g, 15, none⟩ = u15 ∧ w2.cell? ⟨g, 16, none⟩ = u16 ∧ w2.cell? ⟨g, 17, none⟩ = u17 ∧ w2.cell? ⟨g, 18, none⟩ = u18 ∧ w2.cell? ⟨g, 19, none⟩ = u19 ∧ w2.cell? ⟨g, 20, none⟩ = u20 ∧ w2.cell? ⟨g, 21, none⟩ = u21 ∧ w2.cell? ⟨g, 22, none⟩ = u22 ∧ w2.cell? ⟨g, 23, none⟩ = u23 ∧ g < w2.heap.size ∧ Below w.heap.size w w2 := by
  obtain ⟨h0, h1, h2, h3, h4, h5, h6, h7, h8, h9, h10, h11, h12, h13, h14, h15, h16, h17, h18, h19, h20, h21, h22, h23, hz, hB⟩ := h
  have hs := b.size
  exact ⟨(b.cell (p := ⟨g, 0, none⟩) hz).trans h0, (b.cell (p := ⟨g, 1, none⟩) hz).trans h1, (b.cell (p := ⟨g, 2, none⟩) hz).trans h2, (b.cell (p := ⟨g, 3, none⟩) hz).trans h3, (b.cell (p := ⟨g, 4, none⟩) hz).trans h4, (b.cell (p := ⟨g, 5, none⟩) hz).trans h5, (b.cell (p := ⟨g, 6, none⟩) hz).trans h6, (b.cell (p := ⟨g, 7, none⟩) hz).trans h7, (b.cell (p := ⟨g, 8, none⟩) hz).trans h8, (b.cell (p := ⟨g, 9, none⟩) hz).trans h9, (b.cell (p := ⟨g, 10, none⟩) hz).trans h10, (b.cell (p := ⟨g, 11, none⟩) hz).trans h11, (b.cell (p := ⟨g, 12, none⟩) hz).trans h12, (b.cell (p := ⟨g, 13, none⟩) hz).trans h13, (b.cell (p := ⟨g, 14, none⟩) hz).trans h14, (b.cell (p := ⟨g, 15, none⟩) hz).trans h15, (b.cell (p := ⟨g, 16, none⟩) hz).trans h16, (b.cell (p := ⟨g, 17, none⟩) hz).trans h17, (b.cell (p := ⟨g, 18, none⟩) hz).trans h18, (b.cell (p := ⟨g, 19, none⟩) hz).trans h19, (b.cell (p := ⟨g, 20, none⟩) hz).trans h20, (b.cell (p := ⟨g, 21, none⟩) hz).trans h21, (b.cell (p := ⟨g, 22, none⟩) hz).trans h22, (b.cell (p := ⟨g, 23, none⟩) hz).trans h23, by omega, hB.trans (b.mono hB.size)⟩
theorem out_alive {w w1 : World} {g : Nat} {u0 u1 u2 u3 u4 u5 u6 u7 u8 u9 u10 u11 u12 u13 u14 u15 u16 u17 u18 u19 u20 u21 u22 u23 : Option Value}
    (h : w1.cell? ⟨g, 0, none⟩ = u0 ∧ w1.cell? ⟨g, 1, none⟩ = u1 ∧ w1.cell? ⟨g, 2, none⟩ = u2 ∧ w1.cell? ⟨g, 3, none⟩ = u3 ∧ w1.cell? ⟨g, 4, none⟩ = u4 ∧ w1.cell? ⟨g, 5, none⟩ = u5 ∧ w1.cell? ⟨g, 6, none⟩ = u6 ∧ w1.cell? ⟨g, 7, none⟩ = u7 ∧ w1.cell? ⟨g, 8, none⟩ = u8 ∧ w1.cell? ⟨g, 9, none⟩ = u9 ∧ w1.cell? ⟨g, 10, none⟩ = u10 ∧ w1.cell? ⟨g, 11, none⟩ = u11 ∧ w1.cell? ⟨g, 12, none⟩ = u12 ∧ w1.cell? ⟨g, 13, none⟩ = u13 ∧ w1.cell? ⟨g, 14, none⟩ = u14 ∧ w1.cell? ⟨g, 15, none⟩ = u15 ∧ w1.cell? ⟨g, 16, none⟩ = u16 ∧ w1.cell? ⟨g, 17, none⟩ = u17 ∧ w1.cell? ⟨g, 18, none⟩ = u18 ∧ w1.cell? ⟨g, 19, none⟩ = u19 ∧ w1.cell? ⟨g, 20, none⟩ = u20 ∧ w1.cell? ⟨g, 21, none⟩ = u21 ∧ w1.cell? ⟨g, 22, none⟩ = u22 ∧ w1.cell? ⟨g, 23, none⟩ = u23 ∧ g < w1.heap.size ∧ Below w.heap.size w w1) : Below w.heap.size w w1 := h.2.2.2.2.2.2.2.2.2.2.2.2.2.2.2.2.2.2.2.2.2.2.2.2.2

set_option maxHeartbeats 4000000 in
set_option maxRecDepth 100000 in
theorem lexAlive (m : Int) (w : World) (hm : w.cell? ⟨1, 0, none⟩ = some (.int .i64 m)) (hw : 1 < w.heap.size) :
    Calls Tryd.prog 57 #[] w fun e w' => e = .returned (.bool true) ∧ Below w.heap.size w w' := by
  have q := Lib.hid (lex_any ⟨#[108, 101, 116, 32, 120, 61, 49, 59]⟩ m w (by decide) hm hw)
  have e0 : (FloatKind.f64.format.order 0 0 == some .eq) = true := by decide +kernel
  have e1 : (FloatKind.f64.format.order 4607182418800017408 4607182418800017408 == some .eq) = true := by decide +kernel
  have a0 := Lib.hid (fun w' => lawTok_any 2 ⟨#[108, 101, 116]⟩ 0 w')
  have a1 := Lib.hid (fun w' => lawTok_any 1 ⟨#[120]⟩ 4 w')
  have a2 := Lib.hid (fun w' => lawTok_any 5 ⟨#[61]⟩ 5 w')
  have a4 := Lib.hid (fun w' => lawTok_any 5 ⟨#[59]⟩ 7 w')
  have a5 := Lib.hid (fun w' => lawTok_any 0 ⟨#[]⟩ 8 w')
  unfold tkA at *
  clear hm
  go_enter Tryd.func57, Tryd.ntmps57
  go_wp2_with fail
  refine q.out.mono ?_; rintro e w1 ⟨l, p, f, v, hl, rfl, hr, hb⟩
  have hd := Lx.Ends.det hl alive_lex
  injection hd with e1 e2
  injection e2 with e2 e3
  subst e1 e2 e3
  obtain ⟨g, cap, rfl, hg, hlt, hcell, hcap⟩ := hr.at
  have hS : w1.cell? ⟨g, 0, none⟩ = some (.int .u8 2) ∧ w1.cell? ⟨g, 1, none⟩ = some (.int .i64 0) ∧ w1.cell? ⟨g, 2, none⟩ = some (.string ⟨#[108, 101, 116]⟩) ∧ w1.cell? ⟨g, 3, none⟩ = some (.float .f64 0) ∧ w1.cell? ⟨g, 4, none⟩ = some (.int .u8 1) ∧ w1.cell? ⟨g, 5, none⟩ = some (.int .i64 4) ∧ w1.cell? ⟨g, 6, none⟩ = some (.string ⟨#[120]⟩) ∧ w1.cell? ⟨g, 7, none⟩ = some (.float .f64 0) ∧ w1.cell? ⟨g, 8, none⟩ = some (.int .u8 5) ∧ w1.cell? ⟨g, 9, none⟩ = some (.int .i64 5) ∧ w1.cell? ⟨g, 10, none⟩ = some (.string ⟨#[61]⟩) ∧ w1.cell? ⟨g, 11, none⟩ = some (.float .f64 0) ∧ w1.cell? ⟨g, 12, none⟩ = some (.int .u8 3) ∧ w1.cell? ⟨g, 13, none⟩ = some (.int .i64 6) ∧ w1.cell? ⟨g, 14, none⟩ = some (.string ⟨#[]⟩) ∧ w1.cell? ⟨g, 15, none⟩ = some (.float .f64 4607182418800017408) ∧ w1.cell? ⟨g, 16, none⟩ = some (.int .u8 5) ∧ w1.cell? ⟨g, 17, none⟩ = some (.int .i64 7) ∧ w1.cell? ⟨g, 18, none⟩ = some (.string ⟨#[59]⟩) ∧ w1.cell? ⟨g, 19, none⟩ = some (.float .f64 0) ∧ w1.cell? ⟨g, 20, none⟩ = some (.int .u8 0) ∧ w1.cell? ⟨g, 21, none⟩ = some (.int .i64 8) ∧ w1.cell? ⟨g, 22, none⟩ = some (.string ⟨#[]⟩) ∧ w1.cell? ⟨g, 23, none⟩ = some (.float .f64 0) ∧ g < w1.heap.size ∧ Below w.heap.size w w1 := ⟨hcell 0 _ rfl, hcell 1 _ rfl, hcell 2 _ rfl, hcell 3 _ rfl, hcell 4 _ rfl, hcell 5 _ rfl, hcell 6 _ rfl, hcell 7 _ rfl, hcell 8 _ rfl, hcell 9 _ rfl, hcell 10 _ rfl, hcell 11 _ rfl, hcell 12 _ rfl, hcell 13 _ rfl, hcell 14 _ rfl, hcell 15 _ rfl, hcell 16 _ rfl, hcell 17 _ rfl, hcell 18 _ rfl, hcell 19 _ rfl, hcell 20 _ rfl, hcell 21 _ rfl, hcell 22 _ rfl, hcell 23 _ rfl, hlt, hb⟩
  clear hb hr hl hcell hg hcap hlt q
  go_wp2_with fail
  go_region_held3 (fun w' => w'.cell? ⟨g, 0, none⟩ = some (.int .u8 2) ∧ w'.cell? ⟨g, 1, none⟩ = some (.int .i64 0) ∧ w'.cell? ⟨g, 2, none⟩ = some (.string ⟨#[108, 101, 116]⟩) ∧ w'.cell? ⟨g, 3, none⟩ = some (.float .f64 0) ∧ w'.cell? ⟨g, 4, none⟩ = some (.int .u8 1) ∧ w'.cell? ⟨g, 5, none⟩ = some (.int .i64 4) ∧ w'.cell? ⟨g, 6, none⟩ = some (.string ⟨#[120]⟩) ∧ w'.cell? ⟨g, 7, none⟩ = some (.float .f64 0) ∧ w'.cell? ⟨g, 8, none⟩ = some (.int .u8 5) ∧ w'.cell? ⟨g, 9, none⟩ = some (.int .i64 5) ∧ w'.cell? ⟨g, 10, none⟩ = some (.string ⟨#[61]⟩) ∧ w'.cell? ⟨g, 11, none⟩ = some (.float .f64 0) ∧ w'.cell? ⟨g, 12, none⟩ = some (.int .u8 3) ∧ w'.cell? ⟨g, 13, none⟩ = some (.int .i64 6) ∧ w'.cell? ⟨g, 14, none⟩ = some (.string ⟨#[]⟩) ∧ w'.cell? ⟨g, 15, none⟩ = some (.float .f64 4607182418800017408) ∧ w'.cell? ⟨g, 16, none⟩ = some (.int .u8 5) ∧ w'.cell? ⟨g, 17, none⟩ = some (.int .i64 7) ∧ w'.cell? ⟨g, 18, none⟩ = some (.string ⟨#[59]⟩) ∧ w'.cell? ⟨g, 19, none⟩ = some (.float .f64 0) ∧ w'.cell? ⟨g, 20, none⟩ = some (.int .u8 0) ∧ w'.cell? ⟨g, 21, none⟩ = some (.int .i64 8) ∧ w'.cell? ⟨g, 22, none⟩ = some (.string ⟨#[]⟩) ∧ w'.cell? ⟨g, 23, none⟩ = some (.float .f64 0) ∧ g < w'.heap.size ∧ Below w.heap.size w w') (first | assumption | exact keep_alive (by assumption) (by assumption) | (exact keep_alive (by assumption) (Below.drew (Below.refl _ _)))) (first | (go_at_call 112; (with_reducible refine (a0.out _).mono ?_); rintro e w' ⟨rfl, b⟩) | (go_at_call 112; (with_reducible refine (a1.out _).mono ?_); rintro e w' ⟨rfl, b⟩) | (go_at_call 112; (with_reducible refine (a2.out _).mono ?_); rintro e w' ⟨rfl, b⟩) | (go_at_call 112; (with_reducible refine (a4.out _).mono ?_); rintro e w' ⟨rfl, b⟩) | (go_at_call 112; (with_reducible refine (a5.out _).mono ?_); rintro e w' ⟨rfl, b⟩))
  all_goals
    go_wp2
    go_ret
    exact ⟨by simp, out_alive (by assumption)⟩
end Go.Proofs.YtajmdpndbfmdmaaDoor
