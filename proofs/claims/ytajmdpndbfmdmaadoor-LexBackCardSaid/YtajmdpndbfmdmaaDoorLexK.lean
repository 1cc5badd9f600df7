/-
  lex.Text writes tokens. Conditions: numbers are words of 64 bits; texts are shorter than 2^47 bytes; the cell of internal/bytealg.MaxLen holds a whole number.
-/
import Derived.Test.YtajmdpndbfmdmaaDoorLexJ
import Derived.Deep.QuietTactic
import Derived.BigQuiet
namespace Go.Proofs.YtajmdpndbfmdmaaDoor
open Go Go.RowKit

theorem tok_kept {W w4 w6 : World} {cs : Array Value} (h : Lib.OthersKept 5 (some W.heap.size) (w4.alloc (.cells cs 44)) w6) (hlt : W.heap.size < w4.heap.size) : w6.heap[w4.heap.size]? = some (.cells cs 44 (0, 0)) :=
  h _ _ (heap_alloc_new w4 _) (fun e => by injection e with e; omega) (fun c fz e => by injection e with _ e; revert e; decide)
theorem bw_lt {W w4 : World} {l : List UInt8} (h : Hid (Bw W l w4)) : W.heap.size < w4.heap.size := h.out.1.elim (fun x => x.lt) (fun x => x.lt)

/-- What lex.Text gives of tokens ahead of an end. -/
def TextR (ts : List Lx.Tk) (s : List UInt8) (f : Nat) : Prop := if ts.all Lx.okB = false then s = [] ∧ f = 5 else if 65536 < (Lx.joinL ts).length then s = [] ∧ f = 3 else s = Lx.joinL ts ∧ f = 0

/-- What lex.Text gives. -/
def TextOut (ts : List Lx.Tk) (w : World) (e : Ending) (w' : World) : Prop :=
  e = .returned (.tuple #[.string (strOf (Lx.textL ts).1), .int .i64 (Lx.textL ts).2]) ∧ Below w.heap.size w w'

set_option maxHeartbeats 4000000 in
set_option maxRecDepth 100000 in
theorem text_none (A : Option Addr) (cap : Nat) (w : World) : Calls Tryd.prog 37 #[.slice A 0 cap] w (TextOut [] w) := by
  unfold TextOut
  rw [show Lx.textL [] = ([], 5) from rfl]
  go_enter Tryd.func37, Tryd.ntmps37
  go_wp2
  go_ret2
  exact ⟨rfl, Below.refl _ _⟩

set_option maxHeartbeats 4000000 in
set_option maxRecDepth 100000 in
theorem text_many (A : Option Addr) (n cap : Nat) (ts : List Lx.Tk) (w : World) (hn : ts.length = n) (h : 16385 < n) (hb : n ≤ 281474976710656) : Calls Tryd.prog 37 #[.slice A n cap] w (TextOut ts w) := by
  unfold TextOut
  rw [show Lx.textL ts = ([], 4) from by unfold Lx.textL; rw [if_pos (by omega)]]
  have h1 : 16384 < (n : Int) - 1 := by omega
  have hb' : (n : Int) ≤ 281474976710656 := by omega
  clear hn hb
  go_enter Tryd.func37, Tryd.ntmps37
  go_wp2
  go_ret2
  exact ⟨rfl, Below.refl _ _⟩

set_option maxHeartbeats 4000000 in
set_option maxRecDepth 100000 in
theorem text_noend (g o n cap : Nat) (k : Nat) (T : ByteArray) (x : Nat) (w : World) (hx : x < 18446744073709551616) (hn : n ≤ 16384)
    (c0 : w.cell? ⟨g, o + n * 4, none⟩ = some (.int .u8 k)) (c2 : w.cell? ⟨g, o + n * 4 + 2, none⟩ = some (.string T)) (c3 : w.cell? ⟨g, o + n * 4 + 3, none⟩ = some (.float .f64 x))
    (hbad : Lx.endB (k, T.data.toList, x) = false) :
    Calls Tryd.prog 37 #[.slice (some ⟨g, o, none⟩) (n + 1) cap] w fun e w' => e = .returned (.tuple #[.string (strOf []), .int .i64 5]) ∧ Below w.heap.size w w' := by
  have h1 : (n : Int) ≤ 16384 := by omega
  unfold Lx.endB at hbad
  simp only at hbad
  by_cases hk : k = 0
  · subst hk
    by_cases h0 : T.size = 0
    · obtain rfl := empty_of h0
      rw [show ByteArray.empty.data.toList.isEmpty = true from rfl] at hbad
      have e1 := Fl.ord_neq hx (y := 0) (by decide)
      rw [zero_feq hx, show Lx.zero x = false from by simpa using hbad] at e1
      clear hbad h0 hx
      go_enter Tryd.func37, Tryd.ntmps37
      go_wp2
      go_ret2
      exact ⟨rfl, Below.refl _ _⟩
    · have he := isEmpty_of h0
      have hne : T.toList ≠ [] := by intro e; rw [e] at he; cases he
      clear hbad h0 hx he
      go_enter Tryd.func37, Tryd.ntmps37
      go_wp2
      go_ret2
      exact ⟨rfl, Below.refl _ _⟩
  · have hk2 : ((k : Int) == 0) = false := by rw [beq_eq_false_iff_ne]; omega
    clear hbad hx
    go_enter Tryd.func37, Tryd.ntmps37
    go_wp2
    go_ret2
    exact ⟨rfl, Below.refl _ _⟩

set_option maxHeartbeats 4000000 in
set_option maxRecDepth 100000 in
theorem text_end (g o n cap : Nat) (x : Nat) (its : List (Int × Lx.Tk)) (m : Int) (w : World) (hx : x < 18446744073709551616) (hn : n ≤ 16384) (hin : its.length = n) (hcap : n + 1 ≤ cap)
    (c0 : w.cell? ⟨g, o + n * 4, none⟩ = some (.int .u8 0)) (c2 : w.cell? ⟨g, o + n * 4 + 2, none⟩ = some (.string ⟨#[]⟩)) (c3 : w.cell? ⟨g, o + n * 4 + 3, none⟩ = some (.float .f64 x)) (hz : Lx.zero x = true)
    (hg : g < w.heap.size)
    (hc : ∀ i t, its[i]? = some t → w.cell? ⟨g, o + i * 4, none⟩ = some (.int .u8 t.2.1) ∧ w.cell? ⟨g, o + i * 4 + 1, none⟩ = some (.int .i64 t.1) ∧
      w.cell? ⟨g, o + i * 4 + 2, none⟩ = some (.string (strOf t.2.2.1)) ∧ w.cell? ⟨g, o + i * 4 + 3, none⟩ = some (.float .f64 t.2.2.2))
    (hok : ∀ t ∈ its, t.2.2.2 < 18446744073709551616 ∧ t.2.2.1.length ≤ 140737488351232)
    (hm : w.cell? ⟨1, 0, none⟩ = some (.int .i64 m)) (hw : 1 < w.heap.size) (htab : Lib.TabIs Tryd.prog w "internal/strconv.uint64pow10" .u64 Lib.pow10Tab) :
    Calls Tryd.prog 37 #[.slice (some ⟨g, o, none⟩) (n + 1) cap] w fun e w' => ∃ (s : List UInt8) (f : Nat), e = .returned (.tuple #[.string (strOf s), .int .i64 f]) ∧ Below w.heap.size w w' ∧
      TextR (its.map (·.2)) s f := by
  have h1 : (n : Int) ≤ 16384 := by omega
  have h1' : (n : Int) ≤ cap := by omega
  have e1 := Fl.ord_neq hx (y := 0) (by decide)
  rw [zero_feq hx, hz] at e1
  have hm' := Lib.hid hm
  have ht0 := Lib.hid htab
  have hc' := Lib.hid hc
  have hok' := Lib.hid hok
  clear hm hc hok hx hz htab
  go_enter Tryd.func37, Tryd.ntmps37
  go_wp2_with fail
  go_loopw [45] (fun i wr => ∃ k : Nat, k ≤ n ∧ i = .int .i64 k ∧ Hid (Below w.heap.size w wr ∧ ((its.take k).map (·.2)).all Lx.okB = true)) (fun i _ => ((n : Int) - intOf i).toNat)
  case atStart => exact ⟨0, by omega, rfl, Lib.hid ⟨Below.refl _ _, rfl⟩⟩
  case round =>
    obtain ⟨k, hk, rfl, H⟩ := hrel
    by_cases c : (k : Int) < n
    · obtain ⟨t, ht⟩ : ∃ t, its[k]? = some t := ⟨_, List.getElem?_eq_getElem (by omega)⟩
      obtain ⟨d0, d1, d2, d3⟩ := hc'.out k t ht
      obtain ⟨a, kd, T, y⟩ := t
      simp only at d0 d1 d2 d3
      have w0 := (H.out.1.cell (p := ⟨g, o + k * 4, none⟩) hg).trans d0
      have w1 := (H.out.1.cell (p := ⟨g, o + k * 4 + 1, none⟩) hg).trans d1
      have w2 := (H.out.1.cell (p := ⟨g, o + k * 4 + 2, none⟩) hg).trans d2
      have w3 := (H.out.1.cell (p := ⟨g, o + k * 4 + 3, none⟩) hg).trans d3
      clear d0 d1 d2 d3
      obtain ⟨hy, hTl⟩ := hok'.out _ (List.mem_of_getElem? ht)
      simp only at hy hTl
      have hTs : (strOf T).size ≤ 140737488351232 := by rw [← size_list, strOf_list]; exact hTl
      have q := Lib.hid (fun w' hm' hw' => may_tok kd a (strOf T) y m w' hy hTs hm' hw')
      have hs1 : (its.take (k + 1)).map (·.2) = (its.take k).map (·.2) ++ [(kd, T, y)] := by rw [List.take_add_one, ht]; simp
      unfold tkA at q
      rw [strOf_list] at q
      have hmem : ((kd, T, y) : Lx.Tk) ∈ its.map (·.2) := List.mem_map.2 ⟨_, List.mem_of_getElem? ht, rfl⟩
      cases hV : Lx.okB (kd, T, y)
      · rw [hV] at q
        have hbad := Lib.hid (show (its.map (·.2)).all Lx.okB = false from by rw [Bool.eq_false_iff]; intro h; rw [List.all_eq_true] at h; rw [h _ hmem] at hV; cases hV)
        clear hy hTl hTs hs1 hmem hV ht
        go_wp2_with fail
        refine (q.out _ ?_ ?_).mono ?_
        · exact (World.cell?_alloc_lt _ _ ⟨1, 0, none⟩ (Nat.lt_of_lt_of_le hw H.out.1.size)).trans ((H.out.1.cell (p := ⟨1, 0, none⟩) hw).trans hm'.out)
        · have := H.out.1.size; simp; omega
        rintro e w5 ⟨rfl, b5⟩
        have B5 := Lib.hid ((H.out.1.alloc H.out.1.size (.cells #[.int .u8 kd, .int .i64 a, .string (strOf T), .float .f64 y] 44)).trans (b5.mono (by have := H.out.1.size; simp; omega)))
        clear b5
        go_wp2
        try rw [Exit.noGoto_ret]
        go_ret2
        exact ⟨[], 5, rfl, B5.out, by unfold TextR; rw [if_pos hbad.out]; exact ⟨rfl, rfl⟩⟩
      · rw [hV] at q
        have hnext := Lib.hid (show (List.map (·.2) (its.take (k + 1))).all Lx.okB = true from by rw [hs1, List.all_append, H.out.2]; simp [hV])
        clear hy hTl hTs hs1 hmem hV ht
        go_wp2_with fail
        refine (q.out _ ?_ ?_).mono ?_
        · exact (World.cell?_alloc_lt _ _ ⟨1, 0, none⟩ (Nat.lt_of_lt_of_le hw H.out.1.size)).trans ((H.out.1.cell (p := ⟨1, 0, none⟩) hw).trans hm'.out)
        · have := H.out.1.size; simp; omega
        rintro e w5 ⟨rfl, b5⟩
        have B5 := Lib.hid ((H.out.1.alloc H.out.1.size (.cells #[.int .u8 kd, .int .i64 a, .string (strOf T), .float .f64 y] 44)).trans (b5.mono (by have := H.out.1.size; simp; omega)))
        clear b5
        go_wp2_with fail
        go_roundw
        case rel => exact ⟨k + 1, by omega, by go_num, Lib.hid ⟨B5.out, hnext.out⟩⟩
        case measure => simp [intOf]; omega
    · have hkn : n = k := by omega
      subst hkn
      have hall := H.out.2
      rw [List.take_of_length_le (by omega)] at hall
      have hall' := Lib.hid hall
      have B0 := Lib.hid H.out.1
      clear hall H hk c
      obtain ⟨W1, hW1⟩ : ∃ W, W = wr := ⟨_, rfl⟩
      subst hW1
      go_wp2_with fail
      go_loopw [57] (fun i w4 => ∃ k : Nat, k ≤ n ∧ i = .int .i64 k ∧ Hid (Bw W1 (Lx.joinL ((its.take k).map (·.2))) w4) ∧ Hid ((Lx.joinL ((its.take k).map (·.2))).length ≤ 65536)) (fun i _ => ((n : Int) - intOf i).toNat)
      case atStart => exact ⟨0, by omega, rfl, Lib.hid (bw_new W1), Lib.hid (by simp [Lx.joinL])⟩
      case round =>
        obtain ⟨j, hj, rfl, G, hl⟩ := hrel
        by_cases c : (j : Int) < n
        · obtain ⟨t, ht⟩ : ∃ t, its[j]? = some t := ⟨_, List.getElem?_eq_getElem (by omega)⟩
          obtain ⟨d0, d1, d2, d3⟩ := hc'.out j t ht
          obtain ⟨hy, hTl⟩ := hok'.out _ (List.mem_of_getElem? ht)
          have hgood : Lx.okB t.2 = true := by have h := hall'.out; rw [List.all_eq_true] at h; exact h _ (List.mem_map.2 ⟨_, List.mem_of_getElem? ht, rfl⟩)
          have hwf := Lx.wform_le hgood
          have hs1 : (its.take (j + 1)).map (·.2) = (its.take j).map (·.2) ++ [t.2] := by rw [List.take_add_one, ht]; simp
          have hjl : ((its.take j).map (·.2)).length = j := by simp; omega
          have hjoin := Lx.join_snoc ((its.take j).map (·.2)) t.2
          rw [← hs1, hjl] at hjoin
          have hpre := Lx.join_take_le (its.map (·.2)) (j + 1)
          rw [← List.map_take] at hpre
          obtain ⟨a, kd, T, y⟩ := t
          simp only at d0 d1 d2 d3 hy hTl hgood hwf hjoin hs1
          have hBw := B0.out.trans (G.out.2.mono B0.out.size)
          have w0 := (hBw.cell (p := ⟨g, o + j * 4, none⟩) hg).trans d0
          have w1 := (hBw.cell (p := ⟨g, o + j * 4 + 1, none⟩) hg).trans d1
          have w2 := (hBw.cell (p := ⟨g, o + j * 4 + 2, none⟩) hg).trans d2
          have w3 := (hBw.cell (p := ⟨g, o + j * 4 + 3, none⟩) hg).trans d3
          have G1 := bw_below G (Below.alloc (Below.refl wr.heap.size wr) (Nat.le_refl _) (.cells #[.int .u8 kd, .int .i64 a, .string (strOf T), .float .f64 y] 44))
          generalize hJ : Lx.joinL ((its.take j).map (·.2)) = J at *
          generalize hJ1 : Lx.joinL ((its.take (j + 1)).map (·.2)) = J1 at *
          have htab' := Lib.hid (fun (w' : World) (b : Below w.heap.size w w') => tab_below ht0.out b (tab_size ht0.out))
          have q3 := Lib.hid (fun w' h => text_any y w' hy h)
          clear d0 d1 d2 d3 hBw hs1 hjl ht hJ hTl hy
          have hpre' := Lib.hid hpre
          have hwf' := Lib.hid hwf
          have hjoin' := Lib.hid hjoin
          clear hpre hwf hjoin
          by_cases cz : j = 0
          · have cj : ¬ 0 < (j : Int) := by omega
            have hgl : Lx.gapL j = [] := by unfold Lx.gapL; rw [if_pos (by omega)]
            rw [hgl] at hjoin'
            clear hgl cz
            by_cases k3 : kd = 3
            · subst k3
              have hf : Lx.wform (3, T, y) = (textS y).data.toList := rfl
              rw [hf] at hwf' hjoin'
              have G2 := G1
              go_wp2_with fail
              have B6 := Lib.hid (B0.out.trans (G2.out.2.mono B0.out.size))
              refine (q3.out _ (htab'.out _ B6.out)).mono ?_
              rintro e w7 ⟨rfl, b7⟩
              have G5 := bw_below G2 b7
              clear b7
              go_wp2_with fail
              refine (bwStr G5 (textS y) (by have := hl.out; simp; omega) (by have := hwf'.out; rw [size_list] at this; omega)).mono ?_
              rintro e w8 ⟨rfl, G3⟩
              have G4 := Lib.hid (show Bw W1 J1 w8 from by rw [show J1 = J ++ (textS y).data.toList from hjoin'.out.trans (by simp)]; exact G3.out)
              clear G3
              by_cases c6 : 65536 < J1.length
              · have c6' : 65536 < (J1.length : Int) := by omega
                go_wp2_with fail
                refine (Tryd.Builder_Len _ _ _ _ G4.out.1).mono ?_
                rintro e w9 ⟨rfl, rfl⟩
                rw [Lib.byteCells_length]
                go_wp2_with fail
                try rw [Exit.noGoto_ret]
                go_ret2
                exact ⟨[], 3, rfl, B0.out.trans (G4.out.2.mono B0.out.size), by unfold TextR; rw [if_neg (by rw [hall'.out]; decide), if_pos (by have := hpre'.out; omega)]; exact ⟨rfl, rfl⟩⟩
              · have c6' : ¬ 65536 < (J1.length : Int) := by omega
                go_wp2_with fail
                refine (Tryd.Builder_Len _ _ _ _ G4.out.1).mono ?_
                rintro e w9 ⟨rfl, rfl⟩
                rw [Lib.byteCells_length]
                go_wp2_with fail
                go_roundw
                case rel => exact ⟨j + 1, by omega, by go_num, by rw [hJ1]; exact G4, Lib.hid (by rw [hJ1]; omega)⟩
                case measure => simp [intOf]; omega
            · by_cases k4 : kd = 4
              · subst k4
                have hf : Lx.wform (4, T, y) = Sp.quoteL T := rfl
                rw [hf] at hwf' hjoin'
                have hT4 : (strOf T).size ≤ 70000 := by rw [← size_list, strOf_list]; unfold Lx.okB at hgood; simp at hgood; omega
                have q4 := Lib.hid (fun w' => quote_any (strOf T) w' hT4)
                rw [strOf_list] at q4
                have G2 := G1
                go_wp2_with fail
                refine (q4.out _).mono ?_
                rintro e w7 ⟨rfl, b7⟩
                have G5 := bw_below G2 b7
                clear b7
                go_wp2_with fail
                refine (bwStr G5 (strOf (Sp.quoteL T)) (by have := hl.out; simp; omega) (by have := hwf'.out; rw [← size_list, strOf_list]; omega)).mono ?_
                rintro e w8 ⟨rfl, G3⟩
                rw [strOf_list] at G3
                have G4 := Lib.hid (show Bw W1 J1 w8 from by rw [show J1 = J ++ Sp.quoteL T from hjoin'.out.trans (by simp)]; exact G3.out)
                clear G3
                by_cases c6 : 65536 < J1.length
                · have c6' : 65536 < (J1.length : Int) := by omega
                  go_wp2_with fail
                  refine (Tryd.Builder_Len _ _ _ _ G4.out.1).mono ?_
                  rintro e w9 ⟨rfl, rfl⟩
                  rw [Lib.byteCells_length]
                  go_wp2_with fail
                  try rw [Exit.noGoto_ret]
                  go_ret2
                  exact ⟨[], 3, rfl, B0.out.trans (G4.out.2.mono B0.out.size), by unfold TextR; rw [if_neg (by rw [hall'.out]; decide), if_pos (by have := hpre'.out; omega)]; exact ⟨rfl, rfl⟩⟩
                · have c6' : ¬ 65536 < (J1.length : Int) := by omega
                  go_wp2_with fail
                  refine (Tryd.Builder_Len _ _ _ _ G4.out.1).mono ?_
                  rintro e w9 ⟨rfl, rfl⟩
                  rw [Lib.byteCells_length]
                  go_wp2_with fail
                  go_roundw
                  case rel => exact ⟨j + 1, by omega, by go_num, by rw [hJ1]; exact G4, Lib.hid (by rw [hJ1]; omega)⟩
                  case measure => simp [intOf]; omega
              · have hf : Lx.wform (kd, T, y) = T := by unfold Lx.wform; simp only; rw [if_neg k3, if_neg k4]
                rw [hf] at hwf' hjoin'
                have G2 := G1
                go_wp2_with fail
                refine (bwStr G2 (strOf T) (by have := hl.out; simp; omega) (by have := hwf'.out; rw [← size_list, strOf_list]; omega)).mono ?_
                rintro e w8 ⟨rfl, G3⟩
                rw [strOf_list] at G3
                have G4 := Lib.hid (show Bw W1 J1 w8 from by rw [show J1 = J ++ T from hjoin'.out.trans (by simp)]; exact G3.out)
                clear G3
                by_cases c6 : 65536 < J1.length
                · have c6' : 65536 < (J1.length : Int) := by omega
                  go_wp2_with fail
                  refine (Tryd.Builder_Len _ _ _ _ G4.out.1).mono ?_
                  rintro e w9 ⟨rfl, rfl⟩
                  rw [Lib.byteCells_length]
                  go_wp2_with fail
                  try rw [Exit.noGoto_ret]
                  go_ret2
                  exact ⟨[], 3, rfl, B0.out.trans (G4.out.2.mono B0.out.size), by unfold TextR; rw [if_neg (by rw [hall'.out]; decide), if_pos (by have := hpre'.out; omega)]; exact ⟨rfl, rfl⟩⟩
                · have c6' : ¬ 65536 < (J1.length : Int) := by omega
                  go_wp2_with fail
                  refine (Tryd.Builder_Len _ _ _ _ G4.out.1).mono ?_
                  rintro e w9 ⟨rfl, rfl⟩
                  rw [Lib.byteCells_length]
                  go_wp2_with fail
                  go_roundw
                  case rel => exact ⟨j + 1, by omega, by go_num, by rw [hJ1]; exact G4, Lib.hid (by rw [hJ1]; omega)⟩
                  case measure => simp [intOf]; omega
          · have cj : 0 < (j : Int) := by omega
            have hgl : Lx.gapL j = [32] := by unfold Lx.gapL; rw [if_neg (by omega)]
            rw [hgl] at hjoin'
            clear hgl cz
            by_cases k3 : kd = 3
            · subst k3
              have hf : Lx.wform (3, T, y) = (textS y).data.toList := rfl
              rw [hf] at hwf' hjoin'
              go_wp2_with fail
              refine (bwByteK G1 32 (by have := hl.out; omega)).mono ?_
              rintro e w6 ⟨rfl, G2'⟩
              have G2 := Lib.hid G2'.out.1
              have hh := tok_kept G2'.out.2 (by exact bw_lt G)
              have x0 : w6.cell? ⟨wr.heap.size, 0, none⟩ = some (.int .u8 3) := by rw [cell_of_row _ _ _ _ _ _ hh]; rfl
              have x2 : w6.cell? ⟨wr.heap.size, 2, none⟩ = some (.string (strOf T)) := by rw [cell_of_row _ _ _ _ _ _ hh]; rfl
              have x3 : w6.cell? ⟨wr.heap.size, 3, none⟩ = some (.float .f64 y) := by rw [cell_of_row _ _ _ _ _ _ hh]; rfl
              clear hh G2'
              go_wp2_with fail
              have B6 := Lib.hid (B0.out.trans (G2.out.2.mono B0.out.size))
              refine (q3.out _ (htab'.out _ B6.out)).mono ?_
              rintro e w7 ⟨rfl, b7⟩
              have G5 := bw_below G2 b7
              clear b7
              go_wp2_with fail
              refine (bwStr G5 (textS y) (by have := hl.out; simp; omega) (by have := hwf'.out; rw [size_list] at this; omega)).mono ?_
              rintro e w8 ⟨rfl, G3⟩
              have G4 := Lib.hid (show Bw W1 J1 w8 from by rw [show J1 = (J ++ [32]) ++ (textS y).data.toList from hjoin'.out.trans (by simp)]; exact G3.out)
              clear G3
              by_cases c6 : 65536 < J1.length
              · have c6' : 65536 < (J1.length : Int) := by omega
                go_wp2_with fail
                refine (Tryd.Builder_Len _ _ _ _ G4.out.1).mono ?_
                rintro e w9 ⟨rfl, rfl⟩
                rw [Lib.byteCells_length]
                go_wp2_with fail
                try rw [Exit.noGoto_ret]
                go_ret2
                exact ⟨[], 3, rfl, B0.out.trans (G4.out.2.mono B0.out.size), by unfold TextR; rw [if_neg (by rw [hall'.out]; decide), if_pos (by have := hpre'.out; omega)]; exact ⟨rfl, rfl⟩⟩
              · have c6' : ¬ 65536 < (J1.length : Int) := by omega
                go_wp2_with fail
                refine (Tryd.Builder_Len _ _ _ _ G4.out.1).mono ?_
                rintro e w9 ⟨rfl, rfl⟩
                rw [Lib.byteCells_length]
                go_wp2_with fail
                go_roundw
                case rel => exact ⟨j + 1, by omega, by go_num, by rw [hJ1]; exact G4, Lib.hid (by rw [hJ1]; omega)⟩
                case measure => simp [intOf]; omega
            · by_cases k4 : kd = 4
              · subst k4
                have hf : Lx.wform (4, T, y) = Sp.quoteL T := rfl
                rw [hf] at hwf' hjoin'
                have hT4 : (strOf T).size ≤ 70000 := by rw [← size_list, strOf_list]; unfold Lx.okB at hgood; simp at hgood; omega
                have q4 := Lib.hid (fun w' => quote_any (strOf T) w' hT4)
                rw [strOf_list] at q4
                go_wp2_with fail
                refine (bwByteK G1 32 (by have := hl.out; omega)).mono ?_
                rintro e w6 ⟨rfl, G2'⟩
                have G2 := Lib.hid G2'.out.1
                have hh := tok_kept G2'.out.2 (by exact bw_lt G)
                have x0 : w6.cell? ⟨wr.heap.size, 0, none⟩ = some (.int .u8 4) := by rw [cell_of_row _ _ _ _ _ _ hh]; rfl
                have x2 : w6.cell? ⟨wr.heap.size, 2, none⟩ = some (.string (strOf T)) := by rw [cell_of_row _ _ _ _ _ _ hh]; rfl
                have x3 : w6.cell? ⟨wr.heap.size, 3, none⟩ = some (.float .f64 y) := by rw [cell_of_row _ _ _ _ _ _ hh]; rfl
                clear hh G2'
                go_wp2_with fail
                refine (q4.out _).mono ?_
                rintro e w7 ⟨rfl, b7⟩
                have G5 := bw_below G2 b7
                clear b7
                go_wp2_with fail
                refine (bwStr G5 (strOf (Sp.quoteL T)) (by have := hl.out; simp; omega) (by have := hwf'.out; rw [← size_list, strOf_list]; omega)).mono ?_
                rintro e w8 ⟨rfl, G3⟩
                rw [strOf_list] at G3
                have G4 := Lib.hid (show Bw W1 J1 w8 from by rw [show J1 = (J ++ [32]) ++ Sp.quoteL T from hjoin'.out.trans (by simp)]; exact G3.out)
                clear G3
                by_cases c6 : 65536 < J1.length
                · have c6' : 65536 < (J1.length : Int) := by omega
                  go_wp2_with fail
                  refine (Tryd.Builder_Len _ _ _ _ G4.out.1).mono ?_
                  rintro e w9 ⟨rfl, rfl⟩
                  rw [Lib.byteCells_length]
                  go_wp2_with fail
                  try rw [Exit.noGoto_ret]
                  go_ret2
                  exact ⟨[], 3, rfl, B0.out.trans (G4.out.2.mono B0.out.size), by unfold TextR; rw [if_neg (by rw [hall'.out]; decide), if_pos (by have := hpre'.out; omega)]; exact ⟨rfl, rfl⟩⟩
                · have c6' : ¬ 65536 < (J1.length : Int) := by omega
                  go_wp2_with fail
                  refine (Tryd.Builder_Len _ _ _ _ G4.out.1).mono ?_
                  rintro e w9 ⟨rfl, rfl⟩
                  rw [Lib.byteCells_length]
                  go_wp2_with fail
                  go_roundw
                  case rel => exact ⟨j + 1, by omega, by go_num, by rw [hJ1]; exact G4, Lib.hid (by rw [hJ1]; omega)⟩
                  case measure => simp [intOf]; omega
              · have hf : Lx.wform (kd, T, y) = T := by unfold Lx.wform; simp only; rw [if_neg k3, if_neg k4]
                rw [hf] at hwf' hjoin'
                go_wp2_with fail
                refine (bwByteK G1 32 (by have := hl.out; omega)).mono ?_
                rintro e w6 ⟨rfl, G2'⟩
                have G2 := Lib.hid G2'.out.1
                have hh := tok_kept G2'.out.2 (by exact bw_lt G)
                have x0 : w6.cell? ⟨wr.heap.size, 0, none⟩ = some (.int .u8 kd) := by rw [cell_of_row _ _ _ _ _ _ hh]; rfl
                have x2 : w6.cell? ⟨wr.heap.size, 2, none⟩ = some (.string (strOf T)) := by rw [cell_of_row _ _ _ _ _ _ hh]; rfl
                have x3 : w6.cell? ⟨wr.heap.size, 3, none⟩ = some (.float .f64 y) := by rw [cell_of_row _ _ _ _ _ _ hh]; rfl
                clear hh G2'
                go_wp2_with fail
                refine (bwStr G2 (strOf T) (by have := hl.out; simp; omega) (by have := hwf'.out; rw [← size_list, strOf_list]; omega)).mono ?_
                rintro e w8 ⟨rfl, G3⟩
                rw [strOf_list] at G3
                have G4 := Lib.hid (show Bw W1 J1 w8 from by rw [show J1 = (J ++ [32]) ++ T from hjoin'.out.trans (by simp)]; exact G3.out)
                clear G3
                by_cases c6 : 65536 < J1.length
                · have c6' : 65536 < (J1.length : Int) := by omega
                  go_wp2_with fail
                  refine (Tryd.Builder_Len _ _ _ _ G4.out.1).mono ?_
                  rintro e w9 ⟨rfl, rfl⟩
                  rw [Lib.byteCells_length]
                  go_wp2_with fail
                  try rw [Exit.noGoto_ret]
                  go_ret2
                  exact ⟨[], 3, rfl, B0.out.trans (G4.out.2.mono B0.out.size), by unfold TextR; rw [if_neg (by rw [hall'.out]; decide), if_pos (by have := hpre'.out; omega)]; exact ⟨rfl, rfl⟩⟩
                · have c6' : ¬ 65536 < (J1.length : Int) := by omega
                  go_wp2_with fail
                  refine (Tryd.Builder_Len _ _ _ _ G4.out.1).mono ?_
                  rintro e w9 ⟨rfl, rfl⟩
                  rw [Lib.byteCells_length]
                  go_wp2_with fail
                  go_roundw
                  case rel => exact ⟨j + 1, by omega, by go_num, by rw [hJ1]; exact G4, Lib.hid (by rw [hJ1]; omega)⟩
                  case measure => simp [intOf]; omega
        · have hjn : n = j := by omega
          subst hjn
          have e0 : List.take n its = its := List.take_of_length_le (by omega)
          rw [e0] at G hl
          have hl' := hl.out
          have hfin := Lib.hid (show TextR (its.map (·.2)) (Lx.joinL (its.map (·.2))) 0 from by unfold TextR; rw [if_neg (by rw [hall'.out]; decide), if_neg (by omega)]; exact ⟨rfl, rfl⟩)
          obtain ⟨J, hJ⟩ : ∃ J, J = Lx.joinL (its.map (·.2)) := ⟨_, rfl⟩
          rw [← hJ] at G hl hfin
          clear e0 hl' hJ
          go_wp2_with fail
          refine (Tryd.Builder_String_any _ _ _ _ G.out.1 G.out.2.size).mono ?_
          rintro e w9 ⟨rfl, h9⟩
          have B9 := Lib.hid (B0.out.trans ((G.out.2.trans h9).mono B0.out.size))
          clear h9
          go_wp2
          try rw [Exit.noGoto_ret]
          go_ret2
          exact ⟨J, 0, rfl, B9.out, hfin.out⟩
end Go.Proofs.YtajmdpndbfmdmaaDoor
