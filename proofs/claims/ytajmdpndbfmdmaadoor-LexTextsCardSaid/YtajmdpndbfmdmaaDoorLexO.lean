/-
  LexSpaces on any row of tokens.
-/
import Derived.Test.YtajmdpndbfmdmaaDoorLexM
namespace Go.Proofs.YtajmdpndbfmdmaaDoor
open Go Go.RowKit

theorem textL_good {ts : List Lx.Tk} {u : List UInt8} (h : Lx.textL ts = (u, 0)) : ∃ its z, ts = its ++ [z] ∧ Lx.endB z = true ∧ (∀ t ∈ its, Lx.okB t = true) ∧ u = Lx.joinL its ∧ u.length ≤ 65536 ∧ its.length ≤ 16384 := by
  rcases snoc_or ts with rfl | ⟨its, z, rfl⟩
  · cases h
  · rw [textL_snoc] at h
    split at h
    · cases h
    · split at h
      · cases h
      · split at h
        · cases h
        · split at h
          · cases h
          · rename_i h1 h2 h3 h4
            injection h with h5 _
            refine ⟨its, z, rfl, by simpa using h2, fun t ht => ?_, h5.symm, by rw [← h5]; omega, by omega⟩
            have := List.all_eq_true.1 (by simpa using h3 : its.all Lx.okB = true) t ht
            exact this
theorem zero_feq0 {x : Nat} (hx : x < 18446744073709551616) (h : Lx.zero x = true) : Fl.feq 0 x = true := by
  rw [Fl.feq_comm, zero_feq hx]; exact h
/-- A token read is the token written, but for the place. -/
theorem alike_clean {t : Lx.Tk} (h : Lx.okB t = true) (hx : t.2.2 < 18446744073709551616) : AlikeT (Lx.clean t) t := by
  refine ⟨rfl, rfl, ?_, ?_, hx⟩
  · unfold Lx.clean
    simp only
    unfold Lx.okB at h
    by_cases h3 : t.1 = 3
    · rw [if_pos h3] at h ⊢
      simp only [Bool.and_eq_true] at h
      have := h.1.2
      unfold Fl.fle at this
      simp only [Bool.and_eq_true] at this
      rw [Fl.feq_self]; exact this.1.2
    · rw [if_neg h3] at h ⊢
      apply zero_feq0 hx
      split at h
      · simp only [Bool.and_eq_true] at h; exact h.1
      · split at h
        · simp only [Bool.and_eq_true] at h; exact h.1
        · split at h
          · simp only [Bool.and_eq_true] at h; exact h.1.1.1.1.1
          · cases h
  · unfold Lx.clean
    simp only
    split
    · exact hx
    · decide
theorem alike_end {z : Lx.Tk} (h : Lx.endB z = true) (hx : z.2.2 < 18446744073709551616) : AlikeT (0, [], 0) z := by
  unfold Lx.endB at h
  simp only [Bool.and_eq_true, decide_eq_true_eq] at h
  exact ⟨h.1.1.symm, by simpa using h.1.2.symm, zero_feq0 hx h.2, by decide, hx⟩
/-- Tokens read again and the tokens written: pair by pair. -/
theorem alike_rows {m : List (Nat × Lx.Tk)} {q : Nat} {its : List (Int × Lx.Tk)} {z : Int × Lx.Tk} (hm : m.map (·.2) = (its.map (·.2)).map Lx.clean) (hok : ∀ t ∈ its.map (·.2), Lx.okB t = true) (hz : Lx.endB z.2 = true)
    (hx : ∀ t ∈ its ++ [z], t.2.2.2 < 18446744073709551616) :
    ((m ++ [(q, 0, [], 0)]).map fun (t : Nat × Lx.Tk) => ((t.1 : Int), t.2)).length = (its ++ [z]).length ∧
    ∀ (i : Nat) (a b : Int × Lx.Tk), ((m ++ [(q, (0, [], 0))]).map fun (t : Nat × Lx.Tk) => ((t.1 : Int), t.2))[i]? = some a → (its ++ [z])[i]? = some b → AlikeT a.2 b.2 := by
  have hlen : m.length = its.length := by have := congrArg List.length hm; simpa using this
  refine ⟨by simp [hlen], fun i a b ha hb => ?_⟩
  rw [List.getElem?_map] at ha
  obtain ⟨u, hu, rfl⟩ := Option.map_eq_some_iff.1 ha
  rcases Nat.lt_or_ge i its.length with hi | hi
  · rw [List.getElem?_append_left (by omega)] at hu hb
    have e : (m.map (·.2))[i]? = some u.2 := by rw [List.getElem?_map, hu]; rfl
    rw [hm, List.getElem?_map, List.getElem?_map, hb] at e
    have e2 : Lx.clean b.2 = u.2 := by simpa using e
    show AlikeT u.2 b.2
    rw [← e2]
    exact alike_clean (hok _ (List.mem_map.2 ⟨b, List.mem_of_getElem? hb, rfl⟩)) (hx b (by simp [List.mem_of_getElem? hb]))
  · rw [List.getElem?_append_right (by omega)] at hu hb
    have h0 : i - its.length = 0 := by
      rcases Nat.eq_zero_or_pos (i - its.length) with h | h
      · exact h
      · rw [List.getElem?_eq_none (by simp; omega)] at hb; cases hb
    rw [hlen, h0] at hu
    rw [h0] at hb
    obtain rfl := Option.some.inj hu
    obtain rfl := Option.some.inj hb
    exact alike_end hz (hx z (by simp))

theorem pair_toks (w : World) (k : Nat) (a : Int) (T : List UInt8) (x : Nat) : Toks (w.alloc (.cells #[.int .u8 k, .int .i64 a, .string (strOf T), .float .f64 x, .int .u8 0, .int .i64 0, .string ⟨#[]⟩, .float .f64 0] 44)) (.slice (some ⟨w.heap.size, 0, none⟩) 2 2) [(a, k, T, x), (0, 0, [], 0)] := by
  have hc := fun i => one_cell w #[.int .u8 k, .int .i64 a, .string (strOf T), .float .f64 x, .int .u8 0, .int .i64 0, .string ⟨#[]⟩, .float .f64 0] 44 i
  refine ⟨_, _, rfl, by simp, .inr ⟨w.heap.size, 0, rfl, by simp, fun i t hi => ?_⟩⟩
  match i, hi with
  | 0, hi => obtain rfl := Option.some.inj hi; exact ⟨hc 0, hc 1, hc 2, hc 3⟩
  | 1, hi => obtain rfl := Option.some.inj hi; exact ⟨hc 4, hc 5, hc 6, hc 7⟩
theorem pair_text {t : Lx.Tk} (h : Lx.okB t = true) (hl : (Lx.wform t).length ≤ 65536) : Lx.textL [t, (0, [], 0)] = (Lx.wform t, 0) := by
  have e : [t, (0, [], 0)] = [t] ++ [((0, [], 0) : Lx.Tk)] := rfl
  rw [e, textL_snoc, if_neg (by simp), if_neg (by decide), if_neg (by simp [h]), if_neg (by show ¬ 65536 < (Lx.wform t).length; omega)]
  rfl
theorem spaced_snoc (l : List Lx.Tk) (t : Lx.Tk) : Lx.spacedL (l ++ [t]) = Lx.spacedL l ++ (Lx.wform t ++ Lx.sepL) := by simp [Lx.spacedL]

set_option maxHeartbeats 4000000 in
set_option maxRecDepth 100000 in
theorem lexSpaces_walk (ts : List (Int × Lx.Tk)) (v : Value) (m : Int) (w : World) (hv : Toks w v ts) (hok : ∀ t ∈ ts, t.2.2.2 < 18446744073709551616 ∧ t.2.2.1.length ≤ 140737488351232) (hlen : ts.length ≤ 281474976710656)
    (hm : w.cell? ⟨1, 0, none⟩ = some (.int .i64 m)) (hw : 1 < w.heap.size) (htab : Lib.TabIs Tryd.prog w "internal/strconv.uint64pow10" .u64 Lib.pow10Tab) :
    Calls Tryd.prog 17 #[v] w fun e w' => e = .returned (.bool true) ∧ Below w.heap.size w w' := by
  have hm' := Lib.hid hm
  have ht0 := Lib.hid htab
  have hv' := Lib.hid hv
  have hok' := Lib.hid hok
  have qa := Lib.hid (lexAlive m w hm hw)
  obtain ⟨A, cap, rfl, _, hv⟩ := hv
  by_cases h1 : 1000 < ts.length
  · have h2 : 1000 < (ts.length : Int) := by omega
    clear hm htab hok hv
    go_enter Tryd.func17, Tryd.ntmps17
    go_wp2_with fail
    refine qa.out.mono ?_; rintro e w1 ⟨rfl, b1⟩
    have B1 := Lib.hid b1
    clear b1
    go_wp2
    go_ret
    exact ⟨rfl, B1.out⟩
  · have h2 : ¬ 1000 < (ts.length : Int) := by omega
    have qt := Lib.hid (fun w' hv hm hw htab => lexText_any ts (.slice A ts.length cap) m w' hv hok'.out hlen hm hw htab)
    unfold TextOut at qt
    obtain ⟨u, f, hT⟩ : ∃ u f, Lx.textL (ts.map (·.2)) = (u, f) := ⟨_, _, rfl⟩
    rw [hT] at qt
    simp only at qt
    by_cases hf : f = 0
    · subst hf
      obtain ⟨is, zz, hts, hz, hgood, rfl, hu, hn⟩ := textL_good hT
      obtain ⟨its, z, rfl⟩ : ∃ its z, ts = its ++ [z] := by
        rcases snoc_or ts with rfl | h
        · simp at hts
        · exact h
      rw [List.map_append, List.map_singleton] at hts
      obtain ⟨rfl, e2⟩ := List.append_inj' hts rfl
      obtain rfl := (List.cons.inj e2).1
      rcases hv with ⟨h, _⟩ | ⟨g, o, rfl, hg, hc⟩
      · simp at h
      rw [List.length_append, List.length_singleton] at h1 h2 qt ⊢
      rw [List.length_append, List.length_singleton] at hlen
      obtain ⟨n, hn0⟩ : ∃ n, n = its.length := ⟨_, rfl⟩
      rw [← hn0] at h1 h2 qt hlen ⊢
      have hn1 : (n : Int) ≤ 1000 := by omega
      have hc' := Lib.hid hc
      have hgood' := Lib.hid hgood
      have hu' := Lib.hid hu
      generalize strOf (Lx.joinL (its.map (·.2))) = U at qt
      obtain ⟨mm, q, hall, hmm⟩ := Lx.lex_all hgood (by rw [List.length_map]; omega)
      have hrows := Lib.hid (alike_rows (q := q) hmm hgood hz (fun t ht => (hok t ht).1))
      have hall' := Lib.hid hall
      have hn0' := Lib.hid hn0
      clear hm htab hok hts e2 hT hu hgood hc hz hmm hall hn hn0
      go_enter Tryd.func17, Tryd.ntmps17
      go_wp2_with fail
      refine qa.out.mono ?_; rintro e w1 ⟨rfl, b1⟩
      have B1 := Lib.hid b1
      clear b1
      go_wp2_with fail
      refine (qt.out _ ?_ ?_ ?_ ?_).mono ?_
      · have h := hv'.out.below B1.out; rw [List.length_append, List.length_singleton, ← hn0'.out] at h; exact h
      · exact (B1.out.cell (p := ⟨1, 0, none⟩) hw).trans hm'.out
      · exact Nat.lt_of_lt_of_le hw B1.out.size
      · exact tab_below ht0.out B1.out (tab_size ht0.out)
      rintro e w2 ⟨rfl, b2⟩
      have B2 := Lib.hid (B1.out.trans (b2.mono B1.out.size))
      clear b2
      go_wp2_with fail
      go_loopw [6, 7] (fun s i wr => ∃ (k : Nat) (S : ByteArray), k ≤ n ∧ i = .int .i64 k ∧ s = .string S ∧ S.size ≤ 4 + k * 65546 ∧ Hid (S.data.toList = Lx.headL ++ Lx.spacedL ((its.take k).map (·.2))) ∧ Hid (Below w.heap.size w wr)) (fun _ i _ => ((n : Int) - intOf i).toNat)
      case atStart => exact ⟨0, ⟨#[47, 47, 120, 10]⟩, by omega, rfl, rfl, by decide, Lib.hid rfl, B2⟩
      case round =>
        obtain ⟨k, S, hk, rfl, rfl, hS, hSl, H⟩ := hrel
        by_cases c : (k : Int) < n
        · have hn0 := hn0'.out
          obtain ⟨t, ht⟩ : ∃ t, its[k]? = some t := ⟨_, List.getElem?_eq_getElem (by omega)⟩
          have hmem : t ∈ its := List.mem_of_getElem? ht
          have hgd := hgood'.out t.2 (List.mem_map.2 ⟨t, hmem, rfl⟩)
          have htk : (its.take (k + 1)).map (·.2) = (its.take k).map (·.2) ++ [t.2] := by rw [List.take_add_one, ht]; simp
          have hwl : (Lx.wform t.2).length ≤ 65536 := by
            have h1 := Lx.join_take_le (its.map (·.2)) (k + 1)
            rw [← List.map_take, htk, Lx.join_snoc] at h1
            have := hu'.out
            simp only [List.length_append] at h1
            omega
          have hpt := pair_text hgd hwl
          obtain ⟨hy, hTl⟩ := hok'.out t (by simp [hmem])
          obtain ⟨d0, d1, d2, d3⟩ := hc'.out k t (by rw [List.getElem?_append_left (by omega)]; exact ht)
          obtain ⟨a, kd, T, y⟩ := t
          simp only at d0 d1 d2 d3 hy hTl hpt hwl htk
          have x0 := (H.out.cell (p := ⟨g, o + k * 4, none⟩) hg).trans d0
          have x1 := (H.out.cell (p := ⟨g, o + k * 4 + 1, none⟩) hg).trans d1
          have x2 := (H.out.cell (p := ⟨g, o + k * 4 + 2, none⟩) hg).trans d2
          have x3 := (H.out.cell (p := ⟨g, o + k * 4 + 3, none⟩) hg).trans d3
          have qp := Lib.hid (fun hm hw htab => lexText_any [(a, kd, T, y), (0, 0, [], 0)] _ m _ (pair_toks wr kd a T y) (by intro t ht; simp at ht; rcases ht with rfl | rfl; exact ⟨hy, hTl⟩; exact ⟨by decide, by decide⟩) (by simp) hm hw htab)
          unfold TextOut at qp
          rw [show List.map (·.2) [(a, ((kd, T, y) : Lx.Tk)), (0, 0, [], 0)] = [(kd, T, y), (0, [], 0)] from rfl, hpt] at qp
          simp only at qp
          obtain ⟨Wf, hWf⟩ : ∃ Wf, Wf = strOf (Lx.wform (kd, T, y)) := ⟨_, rfl⟩
          have hWs : Wf.size ≤ 65536 := by rw [hWf, ← size_list, strOf_list]; exact hwl
          rw [← hWf] at qp
          have hnext := Lib.hid (show Lx.headL ++ Lx.spacedL ((its.take (k + 1)).map (·.2)) = Lx.headL ++ Lx.spacedL ((its.take k).map (·.2)) ++ (Wf.data.toList ++ Lx.sepL) from by rw [htk, spaced_snoc, hWf, strOf_list, List.append_assoc])
          have BT := Lib.hid (H.out.alloc H.out.size (.cells #[.int .u8 kd, .int .i64 a, .string (strOf T), .float .f64 y, .int .u8 0, .int .i64 0, .string ⟨#[]⟩, .float .f64 0] 44))
          have hS' : S.size ≤ 70000000 := by omega
          have hkS : (4 + (k + 1) * 65546 : Nat) = 4 + k * 65546 + 65546 := by omega
          clear d0 d1 d2 d3 hy hTl hpt hwl htk hgd hmem ht hWf hn0
          go_wp2_with fail
          refine (qp.out ?_ ?_ ?_).mono ?_
          · exact (BT.out.cell (p := ⟨1, 0, none⟩) hw).trans hm'.out
          · exact Nat.lt_of_lt_of_le hw BT.out.size
          · exact tab_below ht0.out BT.out (tab_size ht0.out)
          rintro e w5 ⟨rfl, b5⟩
          have B5 := Lib.hid (BT.out.trans (b5.mono BT.out.size))
          clear b5
          go_wp2_with fail
          go_roundw
          case rel =>
            refine ⟨k + 1, _, by omega, by go_num, rfl, ?_, Lib.hid ?_, B5⟩
            · have h10 : (⟨#[32, 47, 42, 32, 59, 32, 42, 47, 10, 9]⟩ : ByteArray).size = 10 := rfl
              rw [hkS, ByteArray.size_append, ByteArray.size_append, h10]; omega
            · rw [hnext.out, ← hSl.out]; simp [Lx.sepL]
          case measure => simp [intOf]; omega
        · have hkn : k = n := by omega
          have e0 : List.take k its = its := List.take_of_length_le (by have := hn0'.out; omega)
          have hSl' := hSl.out
          rw [e0] at hSl'
          by_cases c6 : 65536 < S.size + 4
          · have c7 : 65536 < (S.size : Int) + 4 := by omega
            have hS' : S.size ≤ 70000000 := by omega
            have B3 := Lib.hid H.out
            clear hSl' e0 hkn hS c6
            go_wp2_with fail
            try rw [Exit.noGoto_ret]
            go_ret
            exact ⟨rfl, B3.out⟩
          · have c7 : ¬ 65536 < (S.size : Int) + 4 := by omega
            have hS' : S.size ≤ 65532 := by omega
            have hall2 : Lx.Lexes (S ++ ⟨#[47, 42, 42, 47]⟩).data.toList (mm ++ [(q, 0, [], 0)], 0, 0) := by
              have e : (S ++ ⟨#[47, 42, 42, 47]⟩ : ByteArray).data.toList = Lx.headL ++ (Lx.spacedL (its.map (·.2)) ++ Lx.tailL) := by
                rw [ByteArray.data_append, Array.toList_append, hSl', List.append_assoc]; rfl
              rw [e]; exact hall'.out
            have ql := Lib.hid (fun w' hm hw => lex_any (S ++ ⟨#[47, 42, 42, 47]⟩) m w' (by rw [ByteArray.size_append]; show S.size + 4 ≤ 65536; omega) hm hw)
            have hall3 := Lib.hid hall2
            have hlen' : (mm ++ [(q, 0, [], 0)]).length ≤ 100000 := by
              have := hrows.out.1
              have := hn0'.out
              simp at *
              omega
            have B3 := Lib.hid H.out
            have hlen2 := Lib.hid hlen'
            clear hSl' e0 hkn hS c6 hall2 hlen'
            go_wp2_with fail
            refine (ql.out _ ?_ ?_).mono ?_
            · exact (B3.out.cell (p := ⟨1, 0, none⟩) hw).trans hm'.out
            · exact Nat.lt_of_lt_of_le hw B3.out.size
            rintro e w7 ⟨l, p, f, v, hl, rfl, hr, hb⟩
            have hd := Lx.Ends.det hl hall3.out
            injection hd with e1 e2
            injection e2 with e2 e3
            subst e1 e2 e3
            have B7 := Lib.hid (B3.out.trans (hb.mono B3.out.size))
            obtain ⟨A7, c7', rfl⟩ := hr.form
            have qs := Lib.hid (sameTok_true _ _ _ _ w7 hr.toks (hv'.out.below B7.out) hrows.out.1 (by rw [List.length_map]; exact hlen2.out) hrows.out.2)
            rw [show (its ++ [z]).length = n + 1 from by rw [List.length_append, List.length_singleton, hn0'.out]] at qs
            simp only [List.length_append, List.length_singleton] at qs
            clear hb hr hl
            go_wp2_with fail
            refine qs.out.mono ?_
            rintro e w8 ⟨rfl, b8⟩
            have B8 := Lib.hid (B7.out.trans (b8.mono B7.out.size))
            clear b8
            go_wp2
            try rw [Exit.noGoto_ret]
            go_ret
            exact ⟨rfl, B8.out⟩
    · have hf1 : ¬ (f : Int) = 0 := by omega
      have hf2 : ((f : Int) == 0) = false := by rw [beq_eq_false_iff_ne]; exact hf1
      clear hm htab hok hv hT
      go_enter Tryd.func17, Tryd.ntmps17
      go_wp2_with fail
      refine qa.out.mono ?_; rintro e w1 ⟨rfl, b1⟩
      have B1 := Lib.hid b1
      clear b1
      go_wp2_with fail
      refine (qt.out _ (hv'.out.below B1.out) ?_ ?_ ?_).mono ?_
      · exact (B1.out.cell (p := ⟨1, 0, none⟩) hw).trans hm'.out
      · exact Nat.lt_of_lt_of_le hw B1.out.size
      · exact tab_below ht0.out B1.out (tab_size ht0.out)
      rintro e w2 ⟨rfl, b2⟩
      have B2 := Lib.hid (B1.out.trans (b2.mono B1.out.size))
      clear b2
      go_wp2
      go_ret
      exact ⟨rfl, B2.out⟩
end Go.Proofs.YtajmdpndbfmdmaaDoor
