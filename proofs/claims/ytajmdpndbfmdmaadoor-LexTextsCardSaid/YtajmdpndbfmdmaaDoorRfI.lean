/-
  bailiffref03.Tokens cuts a text as the plain theory does; texts that are too long are refused by both; bailiffref03.Same on rows of the same tokens.
-/
import Derived.Test.YtajmdpndbfmdmaaDoorRfM
import Derived.Test.YtajmdpndbfmdmaaDoorLexM
import Derived.Test.YtajmdpndbfmdmaaDoorLexP
import Derived.Deep.QuietTactic
import Derived.BigQuiet
namespace Go.Proofs.YtajmdpndbfmdmaaDoor
open Go Go.RowKit

set_option maxHeartbeats 16000000 in
set_option maxRecDepth 100000 in
theorem refLex_big (s : ByteArray) (w : World) (hs : 65536 < s.size) (hb : s.size ≤ 9223372036854775800) :
    Calls Tryd.prog 51 #[.string s] w fun e w' => e = .returned (.tuple #[.slice none 0 0, .int .i64 0, .int .i64 3]) ∧ w = w' := by
  have h1 : 65536 < (s.size : Int) := by omega
  clear hb
  go_enter Tryd.func51, Tryd.ntmps51
  go_wp2
  go_ret3
  exact ⟨rfl, rfl⟩

set_option maxHeartbeats 16000000 in
set_option maxRecDepth 100000 in
theorem lex_big (s : ByteArray) (w : World) (hs : 65536 < s.size) (hb : s.size ≤ 9223372036854775800) :
    Calls Tryd.prog 50 #[.string s] w fun e w' => e = .returned (.tuple #[.slice none 0 0, .int .i64 0, .int .i64 3]) ∧ Below w.heap.size w w' := by
  have h1 : 65536 < (s.size : Int) := by omega
  clear hb
  go_enter Tryd.func50, Tryd.ntmps50
  go_wp2_with fail
  go_step3
  go_wp2_with fail
  try rw [Exit.noGoto_ret]
  go_ret3
  exact ⟨rfl, Below.refl _ _⟩

set_option maxHeartbeats 16000000 in
set_option maxRecDepth 100000 in
theorem refLex_any (s : ByteArray) (w : World) (hs : s.size ≤ 65536) :
    Calls Tryd.prog 51 #[.string s] w (LexOut s w) := by
  obtain ⟨i0, hi, hz0, hz1, hz2⟩ := info_parts tok_info
  have hs1 : ¬ 65536 < (s.size : Int) := by omega
  have hst := Lib.hid (LexAt.start s w)
  have qp := Lib.hid (fun p w' hp => refPassed_any s p w' (by omega) hp)
  have qk := Lib.hid (fun p w' hp => refToken_any s p w' (by omega) hp)
  go_enter Tryd.func51, Tryd.ntmps51
  go_wp2_with fail
  go_loopw [5, 6] (fun v i wr => ∃ (p : Nat) (acc : List (Nat × Lx.Tk)), p ≤ s.size ∧ i = .int .i64 p ∧ Hid (LexAt s w p acc v wr)) (fun _ i _ => ((s.size : Int) - intOf i).toNat)
  case atStart => exact ⟨0, [], by omega, rfl, hst⟩
  case round =>
    obtain ⟨p, acc, hp, rfl, H⟩ := hrel
    obtain ⟨A, cp, rfl⟩ := H.out.2.2.2.1.form
    go_wp2_with fail
    refine (qp.out p _ hp).mono ?_
    rintro e w' ⟨rfl, q, ok, rfl, hq, hsk, h1, h2⟩
    have hle : p ≤ q := hsk.1
    have H2 : Hid (∀ res, Lx.Ends (s.data.toList.drop q, q, acc) res → Lx.Lexes s.data.toList res) := Lib.hid (fun res g => H.out.2.2.1 res (hsk.2 acc res g))
    have B := Lib.hid H.out.2.2.2.2
    have hal := Lib.hid H.out.2.1
    have hrow0 := Lib.hid H.out.2.2.2.1
    have hqb : (q : Int) ≤ s.size := by omega
    cases ok
    · have hlx := Lib.hid (H2.out _ (Lx.Ends.stop (h2 rfl acc)))
      clear h1 h2 hsk H
      go_wp2
      try rw [Exit.noGoto_ret]
      go_ret3
      exact ⟨[], q, 5, .slice none 0 0, hlx.out, rfl, Row.nil _ _, B.out⟩
    · rcases h1 rfl with he | hS
      · subst he
        have hfin := Lib.hid (H2.out _ (Lx.Ends.stop (show Lx.stepL (s.data.toList.drop s.size, s.size, acc) = .inl (acc ++ [(s.size, 0, [], 0)], 0, 0) from by rw [List.drop_of_length_le (by rw [size_list]; omega)]; rfl)))
        clear h1 h2 hsk H
        go_wp2_with (at_builtin; refine wpList_append_own _ rfl _ _ 42 rfl w.heap.size 44 i0 (tkA 0 0 ByteArray.empty 0) 4 40 Tryd.underlying42 hi hz0 hz1 hz2 rfl (by decide) _ _ _ rfl (hrow0.out.alloc _) ⟨wr.heap.size, 0, none⟩ 1 1 (tkCells (s.size, 0, [], 0)) rfl rfl ?c1 ?c2 ?c3 ?c4 ?c5 ?_)
        case c1 => intro j u h; rw [Lib.add_plain, Nat.zero_add]; refine (one_cell _ _ _ j).trans ?_; rw [List.getElem?_toArray]; exact h
        case c2 => exact tk_one _
        case c3 => have := hal.out; unfold maxLen; omega
        case c4 => have := hal.out; omega
        case c5 => have := B.out.size; simp; omega
        intro v' w1 hown' hgrow _
        have hr := Lib.hid (Row.grow hown')
        have hb := Lib.hid (below_grown (B.out.alloc B.out.size _) (Nat.le_refl _) (hrow0.out.alloc _) hgrow)
        clear hown' hgrow
        go_wp2
        try rw [Exit.noGoto_ret]
        go_ret3
        exact ⟨_, _, _, _, hfin.out, rfl, hr.out, hb.out⟩
      · obtain ⟨hql, hst0⟩ := hS
        have hstep := Lib.hid (hst0 acc)
        have qt := Lib.hid (fun w' => qk.out q w' hql)
        have hqs : ¬ (s.size : Int) ≤ q := by omega
        have hdc := drop_cons s q hql
        clear h1 h2 hsk H hst0
        cases hT : Lx.tokL (s.data.toList.drop q) with
        | error n =>
          rw [hT] at qt hstep
          have hlx := Lib.hid (H2.out _ (Lx.Ends.stop hstep.out))
          clear hT hdc hstep
          go_wp2_with fail
          refine (qt.out _).mono ?_
          rintro e w2 ⟨⟨ek, ea, es, ex, rfl⟩, b2⟩
          unfold tkA
          have B2 := Lib.hid (B.out.trans (b2.mono B.out.size))
          clear b2
          go_wp2
          try rw [Exit.noGoto_ret]
          go_ret3
          exact ⟨[], q + n, 5, .slice none 0 0, hlx.out, rfl, Row.nil _ _, B2.out.alloc B2.out.size _⟩
        | ok tn =>
          rw [hT] at qt hstep
          obtain ⟨⟨k, t, x⟩, n⟩ := tn
          have hgood := Lx.tok_good (by rw [← hdc]; exact hT)
          rw [← hdc, List.length_drop, size_list] at hgood
          obtain ⟨-, hn1, hn2, -⟩ := hgood
          by_cases ha : acc.length = 16384
          · have ha' : ((acc.length : Int) == 16384) = true := by simp; omega
            have hlx := Lib.hid (show Lx.Lexes s.data.toList ([], q, 4) from H2.out _ (Lx.Ends.stop (by rw [hstep.out]; simp only; rw [if_pos ha])))
            clear hdc hT ha hstep
            go_wp2_with fail
            refine (qt.out _).mono ?_
            rintro e w2 ⟨rfl, b2⟩
            unfold tkA
            have B2 := Lib.hid (B.out.trans (b2.mono B.out.size))
            clear b2
            go_wp2
            try rw [Exit.noGoto_ret]
            go_ret3
            exact ⟨[], q, 4, .slice none 0 0, hlx.out, rfl, Row.nil _ _, B2.out.alloc B2.out.size _⟩
          · have ha' : ((acc.length : Int) == 16384) = false := by rw [beq_eq_false_iff_ne]; omega
            have hgo := Lib.hid (show ∀ res, Lx.Ends (s.data.toList.drop (q + n), q + n, acc ++ [(q, (k, t, x))]) res → Lx.Lexes s.data.toList res from fun res g => H2.out res (Lx.Ends.go (by rw [hstep.out]; simp only; rw [if_neg ha, List.drop_drop]) g))
            have hane := Lib.hid ha
            have hpn := Lib.hid (show ((q + n : Nat) : Int) = (q : Int) + n from by omega)
            clear hdc hT ha hstep
            go_wp2_with fail
            refine (qt.out _).mono ?_
            rintro e w2 ⟨rfl, b2⟩
            unfold tkA
            have B2 := Lib.hid (B.out.trans (b2.mono B.out.size))
            have hrow := Lib.hid (hrow0.out.below b2)
            clear b2
            go_wp2_with (at_builtin; refine wpList_append_own _ rfl _ _ 42 rfl w.heap.size 44 i0 (tkA 0 0 ByteArray.empty 0) 4 40 Tryd.underlying42 hi hz0 hz1 hz2 rfl (by decide) _ _ _ rfl ((hrow.out.alloc _).alloc _) ⟨w2.heap.size + 1, 0, none⟩ 1 1 (tkCells (q, k, t, x)) rfl rfl ?c1 ?c2 ?c3 ?c4 ?c5 ?_)
            case c1 => intro j u h; rw [Lib.add_plain, Nat.zero_add]; refine (pair_cell _ _ _ _ j).trans ?_; rw [List.getElem?_toArray]; exact h
            case c2 => exact tk_one _
            case c3 => have := hal.out; unfold maxLen; omega
            case c4 => have := hal.out; omega
            case c5 => have := B2.out.size; simp; omega
            intro v' w3 hown' hgrow _
            have hr := Lib.hid (Row.grow hown')
            have hb := Lib.hid (below_grown ((B2.out.alloc B2.out.size _).alloc (by have := B2.out.size; simp; omega) _) (Nat.le_refl _) ((hrow.out.alloc _).alloc _) hgrow)
            have hnew := Lib.hid (show LexAt s w (q + n) (acc ++ [(q, (k, t, x))]) v' w3 from ⟨by omega, by have := hal.out; have := hane.out; simp; omega, hgo.out, hr.out, hb.out⟩)
            clear hown' hgrow
            go_wp2_with fail
            go_roundw
            case rel => exact ⟨q + n, acc ++ [(q, (k, t, x))], by omega, by rw [hpn.out], hnew⟩
            case measure => simp [intOf]; omega

theorem okB_nan {t : Lx.Tk} (h : Lx.okB t = true) : Fl.isN t.2.2 = false := by
  have hz : ∀ {x : Nat}, Lx.zero x = true → Fl.isN x = false := by
    intro x hx
    unfold Lx.zero at hx
    simp only [Bool.or_eq_true, decide_eq_true_eq] at hx
    rcases hx with rfl | rfl <;> decide +kernel
  by_cases h3 : t.1 = 3
  · obtain ⟨_, n, hn, e⟩ := Lx.okB_num h h3
    rw [e]; exact Fl.isN_W (by omega)
  · unfold Lx.okB at h
    rw [if_neg h3] at h
    split at h
    · simp only [Bool.and_eq_true] at h; exact hz h.1
    · split at h
      · simp only [Bool.and_eq_true] at h; exact hz h.1
      · split at h
        · simp only [Bool.and_eq_true] at h; exact hz h.1.1.1.1.1
        · cases h

set_option maxHeartbeats 16000000 in
set_option maxRecDepth 100000 in
theorem refSame_true (l : List (Int × Lx.Tk)) (v1 v2 : Value) (w : World) (h1 : Toks w v1 l) (h2 : Toks w v2 l) (hb : l.length ≤ 100000)
    (hs : ∀ t ∈ l, t.2.2.2 < 18446744073709551616 ∧ Fl.isN t.2.2.2 = false) :
    Calls Tryd.prog 52 #[v1, v2, .bool true] w fun e w' => e = .returned (.bool true) ∧ Below w.heap.size w w' := by
  obtain ⟨A, c1, rfl, -, h1⟩ := h1
  obtain ⟨B, c2, rfl, -, h2⟩ := h2
  by_cases hl0 : l.length = 0
  · rw [hl0]
    clear h1 h2 hs hl0
    go_enter Tryd.func52, Tryd.ntmps52
    go_wp2_with fail
    go_loopw [7] (fun i wr => i = .int .i64 0 ∧ wr = w) (fun _ _ => (0 : Nat))
    case atStart => exact ⟨rfl, rfl⟩
    case round =>
      obtain ⟨rfl, rfl⟩ := hrel
      go_wp2_with fail
      try rw [Exit.noGoto_ret]
      go_ret
      exact ⟨rfl, Below.refl _ _⟩
  · rcases h1 with ⟨h, _⟩ | ⟨g, o, rfl, hg, h1⟩
    · rw [h] at hl0; exact absurd rfl hl0
    rcases h2 with ⟨h, _⟩ | ⟨q, r, rfl, hq, h2⟩
    · rw [h] at hl0; exact absurd rfl hl0
    obtain ⟨n, hn⟩ : ∃ n, n = l.length := ⟨_, rfl⟩
    rw [← hn] at hb ⊢
    have hn' := Lib.hid hn
    have h1' := Lib.hid h1
    have h2' := Lib.hid h2
    have hs' := Lib.hid hs
    have hnb : (n : Int) ≤ 100000 := by omega
    clear h1 h2 hs hn hl0 hb
    go_enter Tryd.func52, Tryd.ntmps52
    go_wp2_with fail
    go_loopw [7] (fun i wr => ∃ k : Nat, k ≤ n ∧ i = .int .i64 k ∧ Hid (Below w.heap.size w wr)) (fun i _ => ((n : Int) - intOf i).toNat)
    case atStart => exact ⟨0, by omega, rfl, Lib.hid (Below.refl _ _)⟩
    case round =>
      obtain ⟨k, hk, rfl, H⟩ := hrel
      by_cases c : (k : Int) < n
      · obtain ⟨a, ha⟩ : ∃ a, l[k]? = some a := ⟨_, List.getElem?_eq_getElem (by have := hn'.out; omega)⟩
        obtain ⟨ea, eb⟩ := hs'.out a (List.mem_of_getElem? ha)
        obtain ⟨d0, d1, d2, d3⟩ := h1'.out k a ha
        obtain ⟨f0, f1, f2, f3⟩ := h2'.out k a ha
        have en := Fl.ord_neq ea ea
        rw [Fl.feq_self, eb] at en
        obtain ⟨pl, kd, T, y⟩ := a
        simp only at d0 d1 d2 d3 f0 f1 f2 f3 en
        generalize strOf T = Ts at *
        have x0 := (H.out.cell (p := ⟨g, o + k * 4, none⟩) hg).trans d0
        have y0 := (H.out.cell (p := ⟨q, r + k * 4, none⟩) hq).trans f0
        have x1 := (H.out.cell (p := ⟨g, o + k * 4 + 1, none⟩) hg).trans d1
        have y1 := (H.out.cell (p := ⟨q, r + k * 4 + 1, none⟩) hq).trans f1
        have x2 := (H.out.cell (p := ⟨g, o + k * 4 + 2, none⟩) hg).trans d2
        have y2 := (H.out.cell (p := ⟨q, r + k * 4 + 2, none⟩) hq).trans f2
        have x3 := (H.out.cell (p := ⟨g, o + k * 4 + 3, none⟩) hg).trans d3
        have y3 := (H.out.cell (p := ⟨q, r + k * 4 + 3, none⟩) hq).trans f3
        clear d0 d1 d2 d3 f0 f1 f2 f3 ea eb ha
        go_wp2_with fail
        go_quiet (fail)
        go_wp2_with fail
        refine ⟨?_, ?_⟩
        · iterate 120 (try (refine @Exists.intro Value _ _ ?_))
          first | (refine ⟨?_, rfl⟩; exact ⟨k + 1, by omega, by go_num, Lib.hid (Below.drewN_ H.out _)⟩) | (exact ⟨k + 1, by omega, by go_num, Lib.hid (Below.drewN_ H.out _)⟩)
        · simp [intOf] <;> omega
      · go_wp2_with fail
        try rw [Exit.noGoto_ret]
        go_ret
        exact ⟨rfl, H.out⟩
end Go.Proofs.YtajmdpndbfmdmaaDoor
