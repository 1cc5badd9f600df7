/-
  bailiffref03.Text writes tokens. Conditions: the numbers are words of 64 bits.
-/
import Derived.Test.YtajmdpndbfmdmaaDoorRfC
import Derived.Test.YtajmdpndbfmdmaaDoorRfP
namespace Go.Proofs.YtajmdpndbfmdmaaDoor
open Go Go.RowKit

theorem sw_appS {w wr w2 : World} {l : List UInt8} {ao : Option Addr} {cap : Nat} {s : ByteArray} {v' : Value} (h : Sw w l ao cap wr)
    (hown : w2.ownsRow w.heap.size 5 1 v' (l.length + s.size) (Lib.byteCells l ++ Lib.strCells s)) (hg : wr.grownBy w2 (Value.slice ao l.length cap).ownBlock) :
    ∃ ao2 cap2, v' = .slice ao2 (l ++ s.data.toList).length cap2 ∧ Sw w (l ++ s.data.toList) ao2 cap2 w2 := by
  have hl : (l ++ s.data.toList).length = l.length + s.size := by rw [List.length_append, size_list]
  obtain ⟨ao2, cap2, rfl⟩ : ∃ ao2 cap2, v' = .slice ao2 (l.length + s.size) cap2 := by
    rcases hown.2 with ⟨hv, h0⟩ | ⟨g, cap, cur, hv, _⟩
    · exact ⟨none, 0, by rw [h0]; exact hv⟩
    · exact ⟨_, cap, hv⟩
  refine ⟨ao2, cap2, by rw [hl], ?_, ?_⟩
  · rw [byteCells_str, hl]; exact hown
  · exact h.2.grown hg (by have := h.2.size; omega) (fun k hk => (h.1.lt k hk).1)
/-- What lies below stays under a slice of the call's own. -/
theorem sw_move {W w wr : World} {l : List UInt8} {ao : Option Addr} {cap : Nat} (h : Sw w l ao cap wr) (hb : Below W.heap.size W w) : Below W.heap.size W wr := hb.trans (h.2.mono hb.size)
theorem textL_check {ts : List Lx.Tk} (h : Lx.checkL ts ≠ 0) : Lx.textL ts = ([], Lx.checkL ts) := by
  rcases snoc_or ts with rfl | ⟨its, z, rfl⟩
  · rfl
  · rw [checkL_snoc] at h ⊢
    rw [textL_snoc]
    by_cases c1 : 16385 < its.length + 1
    · rw [if_pos c1, if_pos c1]
    · rw [if_neg c1] at h
      rw [if_neg c1, if_neg c1]
      by_cases c2 : Lx.endB z = false
      · rw [if_pos c2, if_pos c2]
      · rw [if_neg c2] at h
        rw [if_neg c2, if_neg c2]
        by_cases c3 : its.all Lx.okB = false
        · rw [if_pos c3, if_pos c3]
        · rw [if_neg c3] at h; exact absurd rfl h
/-- The text of the first k tokens. -/
def joinK (its : List (Int × Lx.Tk)) (k : Nat) : List UInt8 := Lx.joinL ((its.take k).map (·.2))
theorem joinK_eq (its : List (Int × Lx.Tk)) (k : Nat) : joinK its k = Lx.joinL ((its.take k).map (·.2)) := rfl
theorem check_zero {ts : List (Int × Lx.Tk)} (h : Lx.checkL (ts.map (·.2)) = 0) : ∃ its z, ts = its ++ [z] ∧ its.length ≤ 16384 ∧ (its.map (·.2)).all Lx.okB = true ∧
    Lx.textL (ts.map (·.2)) = if 65536 < (Lx.joinL (its.map (·.2))).length then ([], 3) else (Lx.joinL (its.map (·.2)), 0) := by
  rcases snoc_or ts with rfl | ⟨its, z, rfl⟩
  · cases h
  · rw [List.map_append, List.map_singleton] at h ⊢
    rw [checkL_snoc] at h
    rw [textL_snoc]
    by_cases c1 : 16385 < (its.map (·.2)).length + 1
    · rw [if_pos c1] at h; cases h
    · rw [if_neg c1] at h
      by_cases c2 : Lx.endB z.2 = false
      · rw [if_pos c2] at h; cases h
      · rw [if_neg c2] at h
        by_cases c3 : (its.map (·.2)).all Lx.okB = false
        · rw [if_pos c3] at h; cases h
        · rw [List.length_map] at c1
          exact ⟨its, z, rfl, by omega, by simpa using c3, by rw [if_neg (by rw [List.length_map]; exact c1), if_neg c2, if_neg c3]⟩

set_option maxHeartbeats 8000000 in
set_option maxRecDepth 100000 in
theorem refTextL_bad (ts : List (Int × Lx.Tk)) (v : Value) (w : World) (hv : Toks w v ts) (hok : ∀ t ∈ ts, t.2.2.2 < 18446744073709551616) (hlen : ts.length ≤ 281474976710656) (hC : Lx.checkL (ts.map (·.2)) ≠ 0) :
    Calls Tryd.prog 38 #[v] w (TextOut (ts.map (·.2)) w) := by
  unfold TextOut
  rw [textL_check hC]
  have q := Lib.hid (refCheck_any ts v w hv hok hlen)
  unfold CheckOut at q
  generalize Lx.checkL (ts.map (·.2)) = C at *
  have hC1 : ((C : Int) == 0) = false := by rw [beq_eq_false_iff_ne]; omega
  obtain ⟨A, cap, rfl, _, _⟩ := hv
  clear hok hlen hC
  go_enter Tryd.func38, Tryd.ntmps38
  go_wp2_with fail
  refine q.out.mono ?_
  rintro e w1 ⟨rfl, b1⟩
  have B1 := Lib.hid b1
  clear b1
  go_wp2
  try rw [Exit.noGoto_ret]
  go_ret2
  exact ⟨rfl, B1.out⟩

set_option maxHeartbeats 8000000 in
set_option maxRecDepth 100000 in
theorem refTextL_good (g o n cap : Nat) (its : List (Int × Lx.Tk)) (z : Int × Lx.Tk) (w : World) (hn : n ≤ 16384) (hin : its.length = n)
    (hv : Toks w (.slice (some ⟨g, o, none⟩) (n + 1) cap) (its ++ [z])) (hok : ∀ t ∈ its ++ [z], t.2.2.2 < 18446744073709551616) (hg : g < w.heap.size)
    (hc : ∀ i t, its[i]? = some t → w.cell? ⟨g, o + i * 4, none⟩ = some (.int .u8 t.2.1) ∧ w.cell? ⟨g, o + i * 4 + 1, none⟩ = some (.int .i64 t.1) ∧
      w.cell? ⟨g, o + i * 4 + 2, none⟩ = some (.string (strOf t.2.2.1)) ∧ w.cell? ⟨g, o + i * 4 + 3, none⟩ = some (.float .f64 t.2.2.2))
    (hall : (its.map (·.2)).all Lx.okB = true) (hC : Lx.checkL ((its ++ [z]).map (·.2)) = 0) (hcap : n + 1 ≤ cap) (R : List UInt8 × Nat) (hR : R = if 65536 < (Lx.joinL (its.map (·.2))).length then ([], 3) else (Lx.joinL (its.map (·.2)), 0)) :
    Calls Tryd.prog 38 #[.slice (some ⟨g, o, none⟩) (n + 1) cap] w fun e w' => e = .returned (.tuple #[.string (strOf R.1), .int .i64 R.2]) ∧ Below w.heap.size w w' := by
  obtain ⟨i0, hi, hz0, hz1, hz2⟩ := info_parts byte_info
  have h1 : (n : Int) ≤ 16384 := by omega
  have h1' : (n : Int) ≤ cap := by omega
  have q := Lib.hid (refCheck_any _ _ w hv hok (by simp; omega))
  unfold CheckOut at q
  rw [hC] at q
  have hc' := Lib.hid hc
  have hok' := Lib.hid (fun t ht => hok t (List.mem_append_left _ ht))
  have hall' := Lib.hid hall
  have hR' := Lib.hid hR
  clear hc hok hall hC hv hR
  go_enter Tryd.func38, Tryd.ntmps38
  go_wp2_with fail
  refine q.out.mono ?_
  rintro e w1 ⟨rfl, b1⟩
  have B1 := Lib.hid b1
  clear b1
  go_wp2_with fail
  go_loopw [5, 6] (fun o i wr => ∃ (k : Nat) (ao : Option Addr) (cap2 : Nat), k ≤ n ∧ i = .int .i64 k ∧ o = .slice ao (joinK its k).length cap2 ∧ Hid (Sw w1 (joinK its k) ao cap2 wr) ∧ Hid ((joinK its k).length ≤ 65536)) (fun _ i _ => ((n : Int) - intOf i).toNat)
  case atStart => exact ⟨0, none, 0, by omega, rfl, rfl, Lib.hid (sw_new w1), Lib.hid (by unfold joinK; simp [Lx.joinL])⟩
  case round =>
    obtain ⟨k, ao, cap2, hk, rfl, rfl, G, hl⟩ := hrel
    by_cases c : (k : Int) < n
    · obtain ⟨t, ht⟩ : ∃ t, its[k]? = some t := ⟨_, List.getElem?_eq_getElem (by omega)⟩
      have hs1 : (its.take (k + 1)).map (·.2) = (its.take k).map (·.2) ++ [t.2] := by rw [List.take_add_one, ht]; simp
      have hgood : Lx.okB t.2 = true := List.all_eq_true.1 hall'.out _ (List.mem_map.2 ⟨_, List.mem_of_getElem? ht, rfl⟩)
      have hwf := Lx.wform_le hgood
      have hjoin : joinK its (k + 1) = joinK its k ++ (Lx.gapL k ++ Lx.wform t.2) := by rw [joinK_eq, joinK_eq, hs1, Lx.join_snoc, List.length_map, List.length_take, Nat.min_eq_left (by omega)]
      have hpre : (joinK its (k + 1)).length ≤ (Lx.joinL (its.map (·.2))).length := by rw [joinK_eq, List.map_take]; exact Lx.join_take_le _ _
      obtain ⟨J, hJ⟩ : ∃ J, J = joinK its k := ⟨_, rfl⟩
      obtain ⟨J1, hJ1⟩ : ∃ J1, J1 = joinK its (k + 1) := ⟨_, rfl⟩
      rw [← hJ1] at hjoin hpre
      rw [← hJ] at G hl hjoin ⊢
      have hbig := Lib.hid (fun (h : 65536 < J1.length) => show R = ([], 3) from hR'.out.trans (if_pos (Nat.lt_of_lt_of_le h hpre)))
      have B2 := Lib.hid (B1.out.trans (G.out.2.mono B1.out.size))
      obtain ⟨d0, d1, d2, d3⟩ := hc'.out k t ht
      have hy := hok'.out _ (List.mem_of_getElem? ht)
      obtain ⟨a, kd, T, y⟩ := t
      simp only at d0 d1 d2 d3 hy hgood hwf hjoin
      have x0 := (B2.out.cell (p := ⟨g, o + k * 4, none⟩) hg).trans d0
      have x2 := (B2.out.cell (p := ⟨g, o + k * 4 + 2, none⟩) hg).trans d2
      have x3 := (B2.out.cell (p := ⟨g, o + k * 4 + 3, none⟩) hg).trans d3
      have hwf' := Lib.hid hwf
      have hjoin' := Lib.hid hjoin
      have hJ1' := Lib.hid hJ1
      have hJs := Lib.hid (show J.length ≤ 65536 from hl.out)
      have hcell := Lib.hid (fun (wr2 : World) (hb : Below w.heap.size w wr2) => (⟨(hb.cell (p := ⟨g, o + k * 4, none⟩) hg).trans d0, (hb.cell (p := ⟨g, o + k * 4 + 2, none⟩) hg).trans d2, (hb.cell (p := ⟨g, o + k * 4 + 3, none⟩) hg).trans d3⟩ : wr2.cell? ⟨g, o + k * 4, none⟩ = some (.int .u8 kd) ∧ wr2.cell? ⟨g, o + k * 4 + 2, none⟩ = some (.string (strOf T)) ∧ wr2.cell? ⟨g, o + k * 4 + 3, none⟩ = some (.float .f64 y)))
      have hT4 : kd = 4 → (strOf T).size ≤ 70000 := fun e => by subst e; rw [← size_list, strOf_list]; unfold Lx.okB at hgood; simp at hgood; omega
      clear d0 d1 d2 d3 hs1 hwf hjoin hJ1 hpre hl ht hgood hJ
      by_cases cz : k = 0
      · have hgl : Lx.gapL k = [] := by unfold Lx.gapL; rw [if_pos cz]
        subst cz
        simp only [Nat.zero_mul, Nat.add_zero] at x0 x2 x3
        by_cases k3 : kd = 3
        · subst k3
          have hf : Lx.wform (3, T, y) = (textS y).data.toList := rfl
          rw [hf] at hwf' hjoin'
          have q3 := Lib.hid (fun w' => refText_any y w' hy)
          have hSs := Lib.hid (show (textS y).size ≤ 70000 from by have := hwf'.out; rw [size_list] at this; exact this)
          have hjS := Lib.hid (show J ++ (textS y).data.toList = J1 from by rw [hjoin'.out]; simp [hgl])
          clear hwf'
          have G1 := G
          have hJ2l := Lib.hid (show J.length = J.length from rfl)
          go_wp2_with fail
          refine (q3.out _).mono ?_
          rintro e w7 ⟨rfl, rfl⟩
          go_wp2_with (at_builtin; refine Lib.wpList_append_own_string _ rfl _ _ 84 9 rfl w1.heap.size 5 i0 Tryd.underlying84 Tryd.underlying9 hi hz0 hz1 hz2 _ _ _ rfl G1.out.1 (textS y) rfl ?c3 ?c4 ?c5 ?_)
          case c3 => unfold maxLen; have := hJs.out; have := hSs.out; have := hJ2l.out; omega
          case c4 => have := hJs.out; have := hSs.out; have := hJ2l.out; omega
          case c5 => have := G1.out.2.size; omega
          intro v' w3 hown' hgrow _
          have HN := Lib.hid (sw_appS G1.out (by simpa using hown') (by simpa using hgrow))
          clear hown' hgrow
          obtain ⟨ao3, cap4, rfl, HN2⟩ := HN.out
          clear HN
          rw [show J ++ (textS y).data.toList = J1 from hjS.out] at HN2 ⊢
          have G2 := Lib.hid HN2
          clear HN2
          by_cases c6 : 65536 < J1.length
          · have hr := Lib.hid (hbig.out c6)
            have c6' : 65536 < (J1.length : Int) := by omega
            go_wp2_with fail
            try rw [Exit.noGoto_ret]
            go_ret2
            exact ⟨by rw [hr.out]; rfl, B1.out.trans (G2.out.2.mono B1.out.size)⟩
          · have c6' : ¬ 65536 < (J1.length : Int) := by omega
            have hl1 := Lib.hid (show J1.length ≤ 65536 from by omega)
            go_wp2_with fail
            refine ⟨⟨0 + 1, ao3, cap4, by omega, by simp, by rw [← hJ1'.out], by rw [← hJ1'.out]; exact G2, by rw [← hJ1'.out]; exact hl1⟩, by simp [intOf]; omega⟩
        · by_cases k4 : kd = 4
          · subst k4
            have hf : Lx.wform (4, T, y) = (strOf (Sp.quoteL T)).data.toList := (strOf_list _).symm
            rw [hf] at hwf' hjoin'
            have q4 := Lib.hid (fun w' => refQuote_any (strOf T) w' (hT4 rfl))
            rw [strOf_list] at q4
            clear k3 hT4
            have hSs := Lib.hid (show (strOf (Sp.quoteL T)).size ≤ 70000 from by have := hwf'.out; rw [size_list] at this; exact this)
            have hjS := Lib.hid (show J ++ (strOf (Sp.quoteL T)).data.toList = J1 from by rw [hjoin'.out]; simp [hgl])
            clear hwf'
            have G1 := G
            have hJ2l := Lib.hid (show J.length = J.length from rfl)
            go_wp2_with fail
            refine (q4.out _).mono ?_
            rintro e w7 ⟨rfl, rfl⟩
            go_wp2_with (at_builtin; refine Lib.wpList_append_own_string _ rfl _ _ 84 9 rfl w1.heap.size 5 i0 Tryd.underlying84 Tryd.underlying9 hi hz0 hz1 hz2 _ _ _ rfl G1.out.1 (strOf (Sp.quoteL T)) rfl ?c3 ?c4 ?c5 ?_)
            case c3 => unfold maxLen; have := hJs.out; have := hSs.out; have := hJ2l.out; omega
            case c4 => have := hJs.out; have := hSs.out; have := hJ2l.out; omega
            case c5 => have := G1.out.2.size; omega
            intro v' w3 hown' hgrow _
            have HN := Lib.hid (sw_appS G1.out (by simpa using hown') (by simpa using hgrow))
            clear hown' hgrow
            obtain ⟨ao3, cap4, rfl, HN2⟩ := HN.out
            clear HN
            rw [show J ++ (strOf (Sp.quoteL T)).data.toList = J1 from hjS.out] at HN2 ⊢
            have G2 := Lib.hid HN2
            clear HN2
            by_cases c6 : 65536 < J1.length
            · have hr := Lib.hid (hbig.out c6)
              have c6' : 65536 < (J1.length : Int) := by omega
              go_wp2_with fail
              try rw [Exit.noGoto_ret]
              go_ret2
              exact ⟨by rw [hr.out]; rfl, B1.out.trans (G2.out.2.mono B1.out.size)⟩
            · have c6' : ¬ 65536 < (J1.length : Int) := by omega
              have hl1 := Lib.hid (show J1.length ≤ 65536 from by omega)
              go_wp2_with fail
              refine ⟨⟨0 + 1, ao3, cap4, by omega, by simp, by rw [← hJ1'.out], by rw [← hJ1'.out]; exact G2, by rw [← hJ1'.out]; exact hl1⟩, by simp [intOf]; omega⟩
          · have hf : Lx.wform (kd, T, y) = (strOf T).data.toList := by unfold Lx.wform; simp only; rw [if_neg k3, if_neg k4, strOf_list]
            rw [hf] at hwf' hjoin'
            have k3' : ((kd : Int) == 3) = false := by rw [beq_eq_false_iff_ne]; omega
            have k4' : ((kd : Int) == 4) = false := by rw [beq_eq_false_iff_ne]; omega
            clear k3 k4 hT4
            have hSs := Lib.hid (show (strOf T).size ≤ 70000 from by have := hwf'.out; rw [size_list] at this; exact this)
            have hjS := Lib.hid (show J ++ (strOf T).data.toList = J1 from by rw [hjoin'.out]; simp [hgl])
            clear hwf'
            have G1 := G
            have hJ2l := Lib.hid (show J.length = J.length from rfl)
            go_wp2_with (at_builtin; refine Lib.wpList_append_own_string _ rfl _ _ 84 9 rfl w1.heap.size 5 i0 Tryd.underlying84 Tryd.underlying9 hi hz0 hz1 hz2 _ _ _ rfl G1.out.1 (strOf T) rfl ?c3 ?c4 ?c5 ?_)
            case c3 => unfold maxLen; have := hJs.out; have := hSs.out; have := hJ2l.out; omega
            case c4 => have := hJs.out; have := hSs.out; have := hJ2l.out; omega
            case c5 => have := G1.out.2.size; omega
            intro v' w3 hown' hgrow _
            have HN := Lib.hid (sw_appS G1.out (by simpa using hown') (by simpa using hgrow))
            clear hown' hgrow
            obtain ⟨ao3, cap4, rfl, HN2⟩ := HN.out
            clear HN
            rw [show J ++ (strOf T).data.toList = J1 from hjS.out] at HN2 ⊢
            have G2 := Lib.hid HN2
            clear HN2
            by_cases c6 : 65536 < J1.length
            · have hr := Lib.hid (hbig.out c6)
              have c6' : 65536 < (J1.length : Int) := by omega
              go_wp2_with fail
              try rw [Exit.noGoto_ret]
              go_ret2
              exact ⟨by rw [hr.out]; rfl, B1.out.trans (G2.out.2.mono B1.out.size)⟩
            · have c6' : ¬ 65536 < (J1.length : Int) := by omega
              have hl1 := Lib.hid (show J1.length ≤ 65536 from by omega)
              go_wp2_with fail
              refine ⟨⟨0 + 1, ao3, cap4, by omega, by simp, by rw [← hJ1'.out], by rw [← hJ1'.out]; exact G2, by rw [← hJ1'.out]; exact hl1⟩, by simp [intOf]; omega⟩
      · have hgl : Lx.gapL k = [32] := by unfold Lx.gapL; rw [if_neg cz]
        have cz' : 0 < (k : Int) := by omega
        by_cases k3 : kd = 3
        · subst k3
          have hf : Lx.wform (3, T, y) = (textS y).data.toList := rfl
          rw [hf] at hwf' hjoin'
          have q3 := Lib.hid (fun w' => refText_any y w' hy)
          have hSs := Lib.hid (show (textS y).size ≤ 70000 from by have := hwf'.out; rw [size_list] at this; exact this)
          have hjS0 := Lib.hid (show (J ++ [32]) ++ (textS y).data.toList = J1 from by rw [hjoin'.out]; simp [hgl])
          clear hwf'
          go_wp2_with (at_builtin; refine wpList_append_own _ rfl _ _ 84 rfl w1.heap.size 5 i0 (.int .u8 0) 1 1 Tryd.underlying84 hi hz0 hz1 hz2 rfl (by decide) _ _ _ rfl (G.out.1.alloc _) ⟨wr.heap.size, 0, none⟩ 1 1 [.int .u8 32] rfl rfl ?c1 ?c2 ?c3 ?c4 ?c5 ?_)
          case c1 => exact one_new wr _ _
          case c2 => intro u hu; simp at hu; subst hu; rfl
          case c3 => unfold maxLen; have := hJs.out; omega
          case c4 => have := hJs.out; omega
          case c5 => have := G.out.2.size; simp; omega
          intro v' w2 hown' hgrow _
          have HN := Lib.hid (sw_app (u := 32) G.out hown' hgrow)
          obtain ⟨J2, hJ2⟩ : ∃ J2, J2 = J ++ [32] := ⟨_, rfl⟩
          rw [← hJ2] at HN
          have hJ2l := Lib.hid (show J2.length = J.length + 1 from by rw [hJ2]; simp)
          have hjS := Lib.hid (hJ2 ▸ hjS0.out)
          clear hown' hgrow hJ2
          obtain ⟨ao2, cap3, rfl, HN2⟩ := HN.out
          clear HN
          have G1 := Lib.hid HN2
          clear HN2
          obtain ⟨x0, x2, x3⟩ := hcell.out w2 (B1.out.trans (G1.out.2.mono B1.out.size))
          go_wp2_with fail
          refine (q3.out _).mono ?_
          rintro e w7 ⟨rfl, rfl⟩
          go_wp2_with (at_builtin; refine Lib.wpList_append_own_string _ rfl _ _ 84 9 rfl w1.heap.size 5 i0 Tryd.underlying84 Tryd.underlying9 hi hz0 hz1 hz2 _ _ _ rfl G1.out.1 (textS y) rfl ?c3 ?c4 ?c5 ?_)
          case c3 => unfold maxLen; have := hJs.out; have := hSs.out; have := hJ2l.out; omega
          case c4 => have := hJs.out; have := hSs.out; have := hJ2l.out; omega
          case c5 => have := G1.out.2.size; omega
          intro v' w3 hown' hgrow _
          have HN := Lib.hid (sw_appS G1.out (by simpa using hown') (by simpa using hgrow))
          clear hown' hgrow
          obtain ⟨ao3, cap4, rfl, HN2⟩ := HN.out
          clear HN
          rw [show J2 ++ (textS y).data.toList = J1 from hjS.out] at HN2 ⊢
          have G2 := Lib.hid HN2
          clear HN2
          by_cases c6 : 65536 < J1.length
          · have hr := Lib.hid (hbig.out c6)
            have c6' : 65536 < (J1.length : Int) := by omega
            go_wp2_with fail
            try rw [Exit.noGoto_ret]
            go_ret2
            exact ⟨by rw [hr.out]; rfl, B1.out.trans (G2.out.2.mono B1.out.size)⟩
          · have c6' : ¬ 65536 < (J1.length : Int) := by omega
            have hl1 := Lib.hid (show J1.length ≤ 65536 from by omega)
            go_wp2_with fail
            refine ⟨⟨k + 1, ao3, cap4, by omega, by simp, by rw [← hJ1'.out], by rw [← hJ1'.out]; exact G2, by rw [← hJ1'.out]; exact hl1⟩, by simp [intOf]; omega⟩
        · by_cases k4 : kd = 4
          · subst k4
            have hf : Lx.wform (4, T, y) = (strOf (Sp.quoteL T)).data.toList := (strOf_list _).symm
            rw [hf] at hwf' hjoin'
            have q4 := Lib.hid (fun w' => refQuote_any (strOf T) w' (hT4 rfl))
            rw [strOf_list] at q4
            clear k3 hT4
            have hSs := Lib.hid (show (strOf (Sp.quoteL T)).size ≤ 70000 from by have := hwf'.out; rw [size_list] at this; exact this)
            have hjS0 := Lib.hid (show (J ++ [32]) ++ (strOf (Sp.quoteL T)).data.toList = J1 from by rw [hjoin'.out]; simp [hgl])
            clear hwf'
            go_wp2_with (at_builtin; refine wpList_append_own _ rfl _ _ 84 rfl w1.heap.size 5 i0 (.int .u8 0) 1 1 Tryd.underlying84 hi hz0 hz1 hz2 rfl (by decide) _ _ _ rfl (G.out.1.alloc _) ⟨wr.heap.size, 0, none⟩ 1 1 [.int .u8 32] rfl rfl ?c1 ?c2 ?c3 ?c4 ?c5 ?_)
            case c1 => exact one_new wr _ _
            case c2 => intro u hu; simp at hu; subst hu; rfl
            case c3 => unfold maxLen; have := hJs.out; omega
            case c4 => have := hJs.out; omega
            case c5 => have := G.out.2.size; simp; omega
            intro v' w2 hown' hgrow _
            have HN := Lib.hid (sw_app (u := 32) G.out hown' hgrow)
            obtain ⟨J2, hJ2⟩ : ∃ J2, J2 = J ++ [32] := ⟨_, rfl⟩
            rw [← hJ2] at HN
            have hJ2l := Lib.hid (show J2.length = J.length + 1 from by rw [hJ2]; simp)
            have hjS := Lib.hid (hJ2 ▸ hjS0.out)
            clear hown' hgrow hJ2
            obtain ⟨ao2, cap3, rfl, HN2⟩ := HN.out
            clear HN
            have G1 := Lib.hid HN2
            clear HN2
            obtain ⟨x0, x2, x3⟩ := hcell.out w2 (B1.out.trans (G1.out.2.mono B1.out.size))
            go_wp2_with fail
            refine (q4.out _).mono ?_
            rintro e w7 ⟨rfl, rfl⟩
            go_wp2_with (at_builtin; refine Lib.wpList_append_own_string _ rfl _ _ 84 9 rfl w1.heap.size 5 i0 Tryd.underlying84 Tryd.underlying9 hi hz0 hz1 hz2 _ _ _ rfl G1.out.1 (strOf (Sp.quoteL T)) rfl ?c3 ?c4 ?c5 ?_)
            case c3 => unfold maxLen; have := hJs.out; have := hSs.out; have := hJ2l.out; omega
            case c4 => have := hJs.out; have := hSs.out; have := hJ2l.out; omega
            case c5 => have := G1.out.2.size; omega
            intro v' w3 hown' hgrow _
            have HN := Lib.hid (sw_appS G1.out (by simpa using hown') (by simpa using hgrow))
            clear hown' hgrow
            obtain ⟨ao3, cap4, rfl, HN2⟩ := HN.out
            clear HN
            rw [show J2 ++ (strOf (Sp.quoteL T)).data.toList = J1 from hjS.out] at HN2 ⊢
            have G2 := Lib.hid HN2
            clear HN2
            by_cases c6 : 65536 < J1.length
            · have hr := Lib.hid (hbig.out c6)
              have c6' : 65536 < (J1.length : Int) := by omega
              go_wp2_with fail
              try rw [Exit.noGoto_ret]
              go_ret2
              exact ⟨by rw [hr.out]; rfl, B1.out.trans (G2.out.2.mono B1.out.size)⟩
            · have c6' : ¬ 65536 < (J1.length : Int) := by omega
              have hl1 := Lib.hid (show J1.length ≤ 65536 from by omega)
              go_wp2_with fail
              refine ⟨⟨k + 1, ao3, cap4, by omega, by simp, by rw [← hJ1'.out], by rw [← hJ1'.out]; exact G2, by rw [← hJ1'.out]; exact hl1⟩, by simp [intOf]; omega⟩
          · have hf : Lx.wform (kd, T, y) = (strOf T).data.toList := by unfold Lx.wform; simp only; rw [if_neg k3, if_neg k4, strOf_list]
            rw [hf] at hwf' hjoin'
            have k3' : ((kd : Int) == 3) = false := by rw [beq_eq_false_iff_ne]; omega
            have k4' : ((kd : Int) == 4) = false := by rw [beq_eq_false_iff_ne]; omega
            clear k3 k4 hT4
            have hSs := Lib.hid (show (strOf T).size ≤ 70000 from by have := hwf'.out; rw [size_list] at this; exact this)
            have hjS0 := Lib.hid (show (J ++ [32]) ++ (strOf T).data.toList = J1 from by rw [hjoin'.out]; simp [hgl])
            clear hwf'
            go_wp2_with (at_builtin; refine wpList_append_own _ rfl _ _ 84 rfl w1.heap.size 5 i0 (.int .u8 0) 1 1 Tryd.underlying84 hi hz0 hz1 hz2 rfl (by decide) _ _ _ rfl (G.out.1.alloc _) ⟨wr.heap.size, 0, none⟩ 1 1 [.int .u8 32] rfl rfl ?c1 ?c2 ?c3 ?c4 ?c5 ?_)
            case c1 => exact one_new wr _ _
            case c2 => intro u hu; simp at hu; subst hu; rfl
            case c3 => unfold maxLen; have := hJs.out; omega
            case c4 => have := hJs.out; omega
            case c5 => have := G.out.2.size; simp; omega
            intro v' w2 hown' hgrow _
            have HN := Lib.hid (sw_app (u := 32) G.out hown' hgrow)
            obtain ⟨J2, hJ2⟩ : ∃ J2, J2 = J ++ [32] := ⟨_, rfl⟩
            rw [← hJ2] at HN
            have hJ2l := Lib.hid (show J2.length = J.length + 1 from by rw [hJ2]; simp)
            have hjS := Lib.hid (hJ2 ▸ hjS0.out)
            clear hown' hgrow hJ2
            obtain ⟨ao2, cap3, rfl, HN2⟩ := HN.out
            clear HN
            have G1 := Lib.hid HN2
            clear HN2
            obtain ⟨x0, x2, x3⟩ := hcell.out w2 (B1.out.trans (G1.out.2.mono B1.out.size))
            go_wp2_with (at_builtin; refine Lib.wpList_append_own_string _ rfl _ _ 84 9 rfl w1.heap.size 5 i0 Tryd.underlying84 Tryd.underlying9 hi hz0 hz1 hz2 _ _ _ rfl G1.out.1 (strOf T) rfl ?c3 ?c4 ?c5 ?_)
            case c3 => unfold maxLen; have := hJs.out; have := hSs.out; have := hJ2l.out; omega
            case c4 => have := hJs.out; have := hSs.out; have := hJ2l.out; omega
            case c5 => have := G1.out.2.size; omega
            intro v' w3 hown' hgrow _
            have HN := Lib.hid (sw_appS G1.out (by simpa using hown') (by simpa using hgrow))
            clear hown' hgrow
            obtain ⟨ao3, cap4, rfl, HN2⟩ := HN.out
            clear HN
            rw [show J2 ++ (strOf T).data.toList = J1 from hjS.out] at HN2 ⊢
            have G2 := Lib.hid HN2
            clear HN2
            by_cases c6 : 65536 < J1.length
            · have hr := Lib.hid (hbig.out c6)
              have c6' : 65536 < (J1.length : Int) := by omega
              go_wp2_with fail
              try rw [Exit.noGoto_ret]
              go_ret2
              exact ⟨by rw [hr.out]; rfl, B1.out.trans (G2.out.2.mono B1.out.size)⟩
            · have c6' : ¬ 65536 < (J1.length : Int) := by omega
              have hl1 := Lib.hid (show J1.length ≤ 65536 from by omega)
              go_wp2_with fail
              refine ⟨⟨k + 1, ao3, cap4, by omega, by simp, by rw [← hJ1'.out], by rw [← hJ1'.out]; exact G2, by rw [← hJ1'.out]; exact hl1⟩, by simp [intOf]; omega⟩
    · have hkn : k = n := by omega
      have e0 : its.take k = its := List.take_of_length_le (by omega)
      have e1 : joinK its k = Lx.joinL (its.map (·.2)) := by rw [joinK_eq, e0]
      rw [e1] at G hl ⊢
      have hr := Lib.hid (show R = (Lx.joinL (its.map (·.2)), 0) from hR'.out.trans (if_neg (by have := hl.out; omega)))
      obtain ⟨J, hJ⟩ : ∃ J, J = Lx.joinL (its.map (·.2)) := ⟨_, rfl⟩
      rw [← hJ] at G hr ⊢
      have hcv := sw_conv G.out
      clear e0 e1 hkn hk hl hJ
      go_wp2_with fail
      try rw [Exit.noGoto_ret]
      go_ret2
      exact ⟨by rw [hr.out]; rfl, B1.out.trans (G.out.2.mono B1.out.size)⟩

theorem refTextL_any (ts : List (Int × Lx.Tk)) (v : Value) (w : World) (hv : Toks w v ts) (hok : ∀ t ∈ ts, t.2.2.2 < 18446744073709551616) (hlen : ts.length ≤ 281474976710656) :
    Calls Tryd.prog 38 #[v] w (TextOut (ts.map (·.2)) w) := by
  by_cases hC : Lx.checkL (ts.map (·.2)) = 0
  · obtain ⟨its, z, rfl, hl, hall, hT⟩ := check_zero hC
    have hv' := hv
    obtain ⟨A, cap, rfl, hcap, h⟩ := hv
    have hn : (its ++ [z]).length = its.length + 1 := by simp
    rcases h with ⟨h, _⟩ | ⟨g, o, rfl, hg, hc⟩
    · simp at h
    · rw [hn] at hv' hcap ⊢
      unfold TextOut
      exact refTextL_good g o its.length cap its z w hl rfl hv' hok hg (fun i t hi => hc i t (by rw [List.getElem?_append_left (List.getElem?_eq_some_iff.1 hi).1]; exact hi)) hall hC hcap _ hT
  · exact refTextL_bad ts v w hv hok hlen hC
end Go.Proofs.YtajmdpndbfmdmaaDoor
