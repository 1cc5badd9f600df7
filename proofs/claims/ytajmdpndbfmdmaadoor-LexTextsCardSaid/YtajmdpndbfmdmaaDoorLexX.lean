/-
  LexTexts on any text.
-/
import Derived.Test.YtajmdpndbfmdmaaDoorRfI
namespace Go.Proofs.YtajmdpndbfmdmaaDoor
open Go Go.RowKit

/-- A block of the call's own: its first n tokens can be written. -/
def Own (w : World) (g n : Nat) : Prop := (∀ j, j < n * 4 → ∃ u, w.cell? ⟨g, j, none⟩ = some u) ∧ (∀ o, w.frozen? ⟨g, o, none⟩ = false)
theorem Own.below {w w' : World} {g n : Nat} (h : Own w g n) (hg : g < w.heap.size) (b : Below w.heap.size w w') : Own w' g n :=
  ⟨fun j hj => by obtain ⟨u, hu⟩ := h.1 j hj; exact ⟨u, (b.cell (p := ⟨g, j, none⟩) hg).trans hu⟩, fun o => (b.frozen (p := ⟨g, o, none⟩) hg).trans (h.2 o)⟩
theorem Own.set {w : World} {g n : Nat} (h : Own w g n) (i : Nat) (v : Value) : Own (w.setCell ⟨g, i, none⟩ v) g n := by
  refine ⟨fun j hj => ?_, fun o => by rw [World.frozen?_setCell]; exact h.2 o⟩
  obtain ⟨u, hu⟩ := h.1 j hj
  by_cases e : i = j
  · subst e; exact ⟨v, World.cell?_setCell_same _ _ _ hu⟩
  · exact ⟨u, (cell_other i j e v).trans hu⟩
theorem row_own {base : Nat} {v : Value} {l : List (Nat × Lx.Tk)} {w : World} (h : Row base v l w) (hl : l ≠ []) :
    ∃ g c, v = .slice (some ⟨g, 0, none⟩) l.length c ∧ base ≤ g ∧ g < w.heap.size ∧ Own w g l.length := by
  cases l with
  | nil => exact absurd rfl hl
  | cons x l =>
    have h0 := h
    obtain ⟨g, cap, rfl, hb, hlt, hc, hcap⟩ := h.at
    rcases h0.2 with ⟨_, e⟩ | ⟨g', cap', cur, e, _, hh, _, _⟩
    · cases e
    · injection e with e1 _ _
      injection e1 with e1
      injection e1 with e1 _ _
      subst e1
      refine ⟨g, cap, rfl, hb, hlt, fun j hj => ?_, fun o => Lib.frozen_of_heap hh o⟩
      have hlen : (tkRow (x :: l)).length = (x :: l).length * 4 := h0.1
      exact ⟨_, hc j _ (List.getElem?_eq_getElem (by rw [hlen]; exact hj))⟩
theorem Toks.set {w : World} {v : Value} {ts : List (Int × Lx.Tk)} (h : Toks w v ts) {b : Nat} (hb : v.ownBlock ≠ some b) (i : Nat) (u : Value) : Toks (w.setCell ⟨b, i, none⟩ u) v ts := by
  obtain ⟨A, cap, e, h1, h2⟩ := h
  refine ⟨A, cap, e, h1, h2.imp id fun ⟨g, o, h3, h4, h5⟩ => ⟨g, o, h3, by rw [World.size_setCell]; exact h4, fun i' t hi => ?_⟩⟩
  have hne : b ≠ g := by
    rintro rfl
    apply hb
    rw [e, h3]; rfl
  obtain ⟨a0, a1, a2, a3⟩ := h5 i' t hi
  exact ⟨(cell_oth hne _ _ _).trans a0, (cell_oth hne _ _ _).trans a1, (cell_oth hne _ _ _).trans a2, (cell_oth hne _ _ _).trans a3⟩
/-- What stays while the tokens are struck. -/
structure Struck (w w2 : World) (g n : Nat) (v : Value) (ts : List (Int × Lx.Tk)) (wr : World) : Prop where
  below : Below w.heap.size w wr
  own : Own wr g n
  toks : Toks wr v ts
theorem Struck.set {w w2 : World} {g n : Nat} {v : Value} {ts : List (Int × Lx.Tk)} {wr : World} (h : Struck w w2 g n v ts wr) (hg : w.heap.size ≤ g) (hb : v.ownBlock ≠ some g) (i : Nat) (u : Value) : Struck w w2 g n v ts (wr.setCell ⟨g, i, none⟩ u) :=
  ⟨h.below.setCell (p := ⟨g, i, none⟩) hg u, h.own.set i u, h.toks.set hb i u⟩
theorem row_block {base : Nat} {v : Value} {l : List (Nat × Lx.Tk)} {w : World} (h : Row base v l w) {g : Nat} (hg : g < base) : v.ownBlock ≠ some g := by
  rcases h.2 with ⟨rfl, _⟩ | ⟨g', cap, cur, rfl, hb, _⟩
  · intro e; cases e
  · intro e; injection e with e; simp only at e; omega
theorem final_nums {S : List UInt8} {l : List (Nat × Lx.Tk)} {p f : Nat} (h : Lx.Final S (l, p, f)) :
    l.length ≤ 100000 ∧ ∀ t ∈ l.map (fun (t : Nat × Lx.Tk) => ((t.1 : Int), t.2)), t.2.2.2 < 18446744073709551616 ∧ Fl.isN t.2.2.2 = false := by
  rcases h with ⟨m, e, hm, hall, _⟩ | ⟨e, _, _⟩
  · injection e with e _
    subst e
    refine ⟨by rw [List.length_append, List.length_singleton]; omega, fun t ht => ?_⟩
    obtain ⟨u, hu, rfl⟩ := List.mem_map.1 ht
    rcases List.mem_append.1 hu with h | h
    · exact ⟨okB_num_lt (hall u h).1.1, okB_nan (hall u h).1.1⟩
    · obtain rfl := List.mem_singleton.1 h; exact ⟨(by decide : (0 : Nat) < 18446744073709551616), (by decide +kernel : Fl.isN 0 = false)⟩
  · simp only at e
    subst e
    exact ⟨by simp, fun t ht => by simp at ht⟩
theorem toks_none (w : World) : Toks w (.slice none 0 0) [] := ⟨none, 0, rfl, Nat.le_refl _, .inl ⟨rfl, trivial⟩⟩

theorem lexLong_any (s : ByteArray) (w : World) (hb : s.size ≤ 9223372036854775800) :
    Calls Tryd.prog 49 #[.string s] w fun e w' => e = .returned (.bool (decide ((33000 < s.size ∧ s.size ≤ 65536) ∨ 66000 < s.size))) ∧ w = w' := by
  by_cases h1 : 33000 < s.size
  · have g1 : 33000 < (s.size : Int) := by omega
    by_cases h2 : s.size ≤ 65536
    · have g2 : (s.size : Int) ≤ 65536 := by omega
      rw [decide_eq_true (.inl ⟨h1, h2⟩)]
      clear h1 h2 hb
      go_enter Tryd.func49, Tryd.ntmps49
      go_wp2
      go_ret
      exact ⟨rfl, rfl⟩
    · have g2 : ¬ (s.size : Int) ≤ 65536 := by omega
      by_cases h3 : 66000 < s.size
      · have g3 : 66000 < (s.size : Int) := by omega
        rw [decide_eq_true (.inr h3)]
        clear h1 h2 h3 hb
        go_enter Tryd.func49, Tryd.ntmps49
        go_wp2
        go_ret
        exact ⟨rfl, rfl⟩
      · have g3 : ¬ 66000 < (s.size : Int) := by omega
        rw [decide_eq_false (by omega)]
        clear h1 h2 h3 hb
        go_enter Tryd.func49, Tryd.ntmps49
        go_wp2
        go_ret
        exact ⟨rfl, rfl⟩
  · have g1 : ¬ 33000 < (s.size : Int) := by omega
    have g3 : ¬ 66000 < (s.size : Int) := by omega
    rw [decide_eq_false (by omega)]
    clear h1 hb
    go_enter Tryd.func49, Tryd.ntmps49
    go_wp2
    go_ret
    exact ⟨rfl, rfl⟩

set_option maxHeartbeats 16000000 in
set_option maxRecDepth 100000 in
theorem lexTexts_long (s : ByteArray) (w : World) (hb : s.size ≤ 9223372036854775800) (h : (33000 < s.size ∧ s.size ≤ 65536) ∨ 66000 < s.size) :
    Calls Tryd.prog 9 #[.string s] w fun e w' => e = .returned (.bool true) ∧ Below w.heap.size w w' := by
  have q := Lib.hid (lexLong_any s w hb)
  rw [decide_eq_true h] at q
  clear h hb
  go_enter Tryd.func9, Tryd.ntmps9
  go_wp2_with fail
  refine q.out.mono ?_; rintro e w' ⟨rfl, rfl⟩
  go_wp2
  try rw [Exit.noGoto_ret]
  go_ret
  exact ⟨rfl, Below.refl _ _⟩

set_option maxHeartbeats 16000000 in
set_option maxRecDepth 100000 in
theorem lexTexts_big (s : ByteArray) (m : Int) (w : World) (hm : w.cell? ⟨1, 0, none⟩ = some (.int .i64 m)) (hw : 1 < w.heap.size) (h1 : 65536 < s.size) (h2 : s.size ≤ 66000) :
    Calls Tryd.prog 9 #[.string s] w fun e w' => e = .returned (.bool true) ∧ Below w.heap.size w w' := by
  have q := Lib.hid (lexLong_any s w (by omega))
  rw [decide_eq_false (by omega)] at q
  have hm' := Lib.hid hm
  have q6 := Lib.hid (fun w' => lex_big s w' h1 (by omega))
  have qr := Lib.hid (fun w' => refLex_big s w' h1 (by omega))
  have qe := Lib.hid (fun w' => refSame_true [] (.slice none 0 0) (.slice none 0 0) w' (toks_none _) (toks_none _) (by decide) (by simp))
  have qw := Lib.hid (fun w' hm' => lexWord_any s m w' (by omega) hm')
  have qs := Lib.hid (fun w' hm' => lexSign_any s m w' (by omega) hm')
  have rw' := Lib.hid (fun w' => refWord_any s w')
  have rs' := Lib.hid (fun w' => refSign_any s w')
  generalize Lx.wrd s.data.toList = V1 at qw rw'
  generalize Lx.sgn s.data.toList = V2 at qs rs'
  clear hm h1 h2
  go_enter Tryd.func9, Tryd.ntmps9
  go_wp2_with fail
  refine q.out.mono ?_; rintro e w' ⟨rfl, rfl⟩
  go_wp2_with fail
  refine (q6.out _).mono ?_; rintro e w1 ⟨rfl, b1⟩
  have B1 := Lib.hid b1
  clear b1
  go_wp2_with fail
  refine (qr.out _).mono ?_; rintro e w' ⟨rfl, rfl⟩
  go_wp2_with fail
  refine (qe.out _).mono ?_; rintro e w2 ⟨rfl, b2⟩
  have B2 := Lib.hid (B1.out.trans (b2.mono B1.out.size))
  clear b2
  go_wp2_with fail
  refine (qw.out _ ?_).mono ?_
  · exact (B2.out.cell (p := ⟨1, 0, none⟩) hw).trans hm'.out
  rintro e w' ⟨rfl, rfl⟩
  go_wp2_with fail
  refine (rw'.out _).mono ?_; rintro e w' ⟨rfl, rfl⟩
  go_wp2_with fail
  refine (qs.out _ ?_).mono ?_
  · exact (B2.out.cell (p := ⟨1, 0, none⟩) hw).trans hm'.out
  rintro e w' ⟨rfl, rfl⟩
  go_wp2_with fail
  refine (rs'.out _).mono ?_; rintro e w' ⟨rfl, rfl⟩
  go_wp2_with fail
  go_loopw [9] (fun i wr => i = .int .i64 0 ∧ Hid (Below w.heap.size w wr)) (fun _ _ => (0 : Nat))
  case atStart => exact ⟨rfl, B2⟩
  case round =>
    obtain ⟨rfl, H⟩ := hrel
    go_wp2_with fail
    refine (q6.out _).mono ?_; rintro e w3 ⟨rfl, b3⟩
    have B3 := Lib.hid (H.out.trans (b3.mono H.out.size))
    clear b3
    go_wp2_with fail
    refine (qe.out _).mono ?_; rintro e w4 ⟨rfl, b4⟩
    have B4 := Lib.hid (B3.out.trans (b4.mono B3.out.size))
    clear b4
    go_wp2
    try rw [Exit.noGoto_ret]
    go_ret
    exact ⟨rfl, B4.out⟩

set_option maxHeartbeats 16000000 in
set_option maxRecDepth 100000 in
theorem lexTexts_main (s : ByteArray) (m : Int) (w : World) (hm : w.cell? ⟨1, 0, none⟩ = some (.int .i64 m)) (hw : 1 < w.heap.size) (h1 : s.size ≤ 33000) :
    Calls Tryd.prog 9 #[.string s] w fun e w' => e = .returned (.bool true) ∧ Below w.heap.size w w' := by
  have q := Lib.hid (lexLong_any s w (by omega))
  rw [decide_eq_false (by omega)] at q
  have hm' := Lib.hid hm
  have q6 := Lib.hid (fun w' hm hw => lex_any s m w' (by omega) hm hw)
  have qr := Lib.hid (fun w' => refLex_any s w' (by omega))
  have qw := Lib.hid (fun w' hm' => lexWord_any s m w' (by omega) hm')
  have qs := Lib.hid (fun w' hm' => lexSign_any s m w' (by omega) hm')
  have rw' := Lib.hid (fun w' => refWord_any s w')
  have rs' := Lib.hid (fun w' => refSign_any s w')
  generalize Lx.wrd s.data.toList = V1 at qw rw'
  generalize Lx.sgn s.data.toList = V2 at qs rs'
  clear hm h1
  go_enter Tryd.func9, Tryd.ntmps9
  go_wp2_with fail
  refine q.out.mono ?_; rintro e w' ⟨rfl, rfl⟩
  go_wp2_with fail
  refine (q6.out _ hm'.out hw).mono ?_
  rintro e w2 ⟨l, p, f, v6, hl, rfl, hr, hb⟩
  have B2 := Lib.hid hb
  have hl' := Lib.hid hl
  obtain ⟨hn1, hn2⟩ := final_nums (Lx.lexes_final hl)
  have hnb := Lib.hid hn1
  have hnum := Lib.hid hn2
  have hr6 := Lib.hid hr
  clear hb hl hn1 hn2
  obtain ⟨A6, c6, rfl⟩ := hr.form
  clear hr
  go_wp2_with fail
  refine (qr.out _).mono ?_
  rintro e w3 ⟨l2, p2, f2, v7, hl2, rfl, hr2, hb2⟩
  have hd2 := Lx.Ends.det hl2 hl'.out
  injection hd2 with e1 e2
  injection e2 with e2 e3
  subst e1 e2 e3
  have B3 := Lib.hid (B2.out.trans (hb2.mono B2.out.size))
  have hr6' := Lib.hid (hr6.out.below hb2)
  have hr7 := Lib.hid hr2
  obtain ⟨A7, c7, rfl⟩ := hr2.form
  clear hl2 hr2 hb2
  have hlb := Lib.hid (show (l2.map (fun (t : Nat × Lx.Tk) => ((t.1 : Int), t.2))).length ≤ 100000 from by rw [List.length_map]; exact hnb.out)
  have hlm := Lib.hid (show (l2.map (fun (t : Nat × Lx.Tk) => ((t.1 : Int), t.2))).length = l2.length from List.length_map _)
  have qe := Lib.hid (refSame_true _ _ _ w3 hr6'.out.toks hr7.out.toks hlb.out hnum.out)
  go_wp2_with fail
  refine qe.out.mono ?_; rintro e w4 ⟨rfl, b4⟩
  have B4 := Lib.hid (B3.out.trans (b4.mono B3.out.size))
  have hr6b := Lib.hid (hr6'.out.below b4)
  have ht7 := Lib.hid (hr7.out.toks.below b4)
  clear b4 qe
  go_wp2_with fail
  refine (qw.out _ ?_).mono ?_
  · exact (B4.out.cell (p := ⟨1, 0, none⟩) hw).trans hm'.out
  rintro e w' ⟨rfl, rfl⟩
  go_wp2_with fail
  refine (rw'.out _).mono ?_; rintro e w' ⟨rfl, rfl⟩
  go_wp2_with fail
  refine (qs.out _ ?_).mono ?_
  · exact (B4.out.cell (p := ⟨1, 0, none⟩) hw).trans hm'.out
  rintro e w' ⟨rfl, rfl⟩
  go_wp2_with fail
  refine (rs'.out _).mono ?_; rintro e w' ⟨rfl, rfl⟩
  go_wp2_with fail
  obtain ⟨n, hn⟩ : ∃ n, n = l2.length := ⟨_, rfl⟩
  have hn' := Lib.hid hn
  have hnI : (n : Int) ≤ 100000 := by have := hnb.out; omega
  rw [← hn]
  by_cases h0 : n = 0
  · subst h0
    clear hn
    go_loopw [9] (fun i wr => i = .int .i64 0 ∧ Hid (Below w.heap.size w wr ∧ Toks wr (.slice A7 l2.length c7) (l2.map (fun (t : Nat × Lx.Tk) => ((t.1 : Int), t.2))))) (fun _ _ => (0 : Nat))
    case atStart => exact ⟨rfl, Lib.hid ⟨B4.out, ht7.out⟩⟩
    case round =>
      obtain ⟨rfl, H⟩ := hrel
      go_wp2_with fail
      refine (q6.out _ ?_ ?_).mono ?_
      · exact (H.out.1.cell (p := ⟨1, 0, none⟩) hw).trans hm'.out
      · exact Nat.lt_of_lt_of_le hw H.out.1.size
      rintro e w5 ⟨l3, p3, f3, v5, hl3, rfl, hr3, hb3⟩
      have hd3 := Lx.Ends.det hl3 hl'.out
      injection hd3 with e1 e2
      injection e2 with e2 e3
      subst e1 e2 e3
      have B5 := Lib.hid (H.out.1.trans (hb3.mono H.out.1.size))
      obtain ⟨A5, c5, rfl⟩ := hr3.form
      have qe := Lib.hid (refSame_true _ _ _ w5 hr3.toks (H.out.2.below hb3) hlb.out hnum.out)
      rw [← hn'.out] at qe
      rw [← hn'.out]
      clear hl3 hr3 hb3
      go_wp2_with fail
      refine qe.out.mono ?_; rintro e w6 ⟨rfl, b6⟩
      have B6 := Lib.hid (B5.out.trans (b6.mono B5.out.size))
      clear b6
      go_wp2
      try rw [Exit.noGoto_ret]
      go_ret
      exact ⟨rfl, B6.out⟩
  · obtain ⟨g, c6', hv6, hgb, hglt, hown⟩ := row_own hr6b.out (by intro e; apply h0; rw [hn'.out, e]; rfl)
    injection hv6 with e4 e8 e9
    subst e4
    have hblk := Lib.hid (show (Value.slice A7 l2.length c7).ownBlock ≠ some g from row_block hr7.out (by
    obtain ⟨g', c', hv', hgb', hglt', _⟩ := row_own hr6.out (by intro e; apply h0; rw [hn'.out, e]; rfl)
    injection hv' with e5 _ _
    injection e5 with e5
    injection e5 with e5 _ _
    rw [e5]; exact hglt'))
    have hS := Lib.hid (show Struck w w2 g l2.length (.slice A7 l2.length c7) (l2.map (fun (t : Nat × Lx.Tk) => ((t.1 : Int), t.2))) w4 from ⟨B4.out, hown, ht7.out⟩)
    have hgb' := Lib.hid hgb
    clear e8 e9 hown hgb h0 hn
    go_loopw [9] (fun i wr => ∃ k : Nat, k ≤ n ∧ i = .int .i64 k ∧ Hid (Struck w w2 g l2.length (.slice A7 l2.length c7) (l2.map (fun (t : Nat × Lx.Tk) => ((t.1 : Int), t.2))) wr)) (fun i _ => ((n : Int) - intOf i).toNat)
    case atStart => exact ⟨0, by omega, rfl, hS⟩
    case round =>
      obtain ⟨k, hk, rfl, H⟩ := hrel
      by_cases c : (k : Int) < n
      · obtain ⟨u0, x0⟩ := H.out.own.1 (k * 4) (by have := hn'.out; omega)
        obtain ⟨u1, x1⟩ := H.out.own.1 (k * 4 + 1) (by have := hn'.out; omega)
        obtain ⟨u2, x2⟩ := H.out.own.1 (k * 4 + 2) (by have := hn'.out; omega)
        obtain ⟨u3, x3⟩ := H.out.own.1 (k * 4 + 3) (by have := hn'.out; omega)
        have f0 := H.out.own.2
        go_wp2_with fail
        go_roundw
        case rel => exact ⟨k + 1, by omega, by go_num, Lib.hid ((((H.out.set hgb'.out hblk.out _ _).set hgb'.out hblk.out _ _).set hgb'.out hblk.out _ _).set hgb'.out hblk.out _ _)⟩
        case measure => simp [intOf]; omega
      · go_wp2_with fail
        refine (q6.out _ ?_ ?_).mono ?_
        · exact (H.out.below.cell (p := ⟨1, 0, none⟩) hw).trans hm'.out
        · exact Nat.lt_of_lt_of_le hw H.out.below.size
        rintro e w5 ⟨l3, p3, f3, v5, hl3, rfl, hr3, hb3⟩
        have hd3 := Lx.Ends.det hl3 hl'.out
        injection hd3 with e1 e2
        injection e2 with e2 e3
        subst e1 e2 e3
        have B5 := Lib.hid (H.out.below.trans (hb3.mono H.out.below.size))
        obtain ⟨A5, c5, rfl⟩ := hr3.form
        have qe := Lib.hid (refSame_true _ _ _ w5 hr3.toks (H.out.toks.below hb3) hlb.out hnum.out)
        rw [← hn'.out] at qe
        rw [← hn'.out]
        clear hl3 hr3 hb3
        go_wp2_with fail
        refine qe.out.mono ?_; rintro e w6 ⟨rfl, b6⟩
        have B6 := Lib.hid (B5.out.trans (b6.mono B5.out.size))
        clear b6
        go_wp2
        try rw [Exit.noGoto_ret]
        go_ret
        exact ⟨rfl, B6.out⟩

theorem lexTexts_walk (s : ByteArray) (m : Int) (w : World) (hm : w.cell? ⟨1, 0, none⟩ = some (.int .i64 m)) (hw : 1 < w.heap.size) (hb : s.size ≤ 9223372036854775800) :
    Calls Tryd.prog 9 #[.string s] w fun e w' => e = .returned (.bool true) ∧ Below w.heap.size w w' := by
  by_cases h : (33000 < s.size ∧ s.size ≤ 65536) ∨ 66000 < s.size
  · exact lexTexts_long s w hb h
  · by_cases h1 : s.size ≤ 33000
    · exact lexTexts_main s m w hm hw h1
    · exact lexTexts_big s m w hm hw (by omega) (by omega)
end Go.Proofs.YtajmdpndbfmdmaaDoor
