/-
  LexBack where the tokens are written, and in all.
-/
import Derived.Test.YtajmdpndbfmdmaaDoorLexQ
import Derived.Deep.QuietTactic
import Derived.BigQuiet
import Derived.IntWalk
namespace Go.Proofs.YtajmdpndbfmdmaaDoor
open Go Go.RowKit

theorem back_good {ts : List (Int × Lx.Tk)} {u : List UInt8} (hT : Lx.textL (ts.map (·.2)) = (u, 0)) (hx : ∀ t ∈ ts, t.2.2.2 < 18446744073709551616) :
    ∃ (mm : List (Nat × Lx.Tk)) (q : Nat), Lx.Lexes u (mm ++ [(q, 0, [], 0)], 0, 0) ∧ (((mm ++ [(q, ((0, [], 0) : Lx.Tk))]).map fun (t : Nat × Lx.Tk) => ((t.1 : Int), t.2)).length = ts.length ∧
      ∀ (i : Nat) (a b : Int × Lx.Tk), ((mm ++ [(q, ((0, [], 0) : Lx.Tk))]).map fun (t : Nat × Lx.Tk) => ((t.1 : Int), t.2))[i]? = some a → ts[i]? = some b → AlikeT a.2 b.2) ∧
      (mm ++ [(q, ((0, [], 0) : Lx.Tk))]).length ≤ 100000 ∧ u.length ≤ 65536 := by
  obtain ⟨is, zz, hts, hz, hgood, rfl, hu, hn⟩ := textL_good hT
  obtain ⟨its, z, rfl⟩ : ∃ its z, ts = its ++ [z] := by
    rcases snoc_or ts with rfl | h
    · simp at hts
    · exact h
  rw [List.map_append, List.map_singleton] at hts
  obtain ⟨rfl, e2⟩ := List.append_inj' hts rfl
  obtain rfl := (List.cons.inj e2).1
  obtain ⟨mm, q, hall, hmm⟩ := Lx.lex_join (its.map (·.2)) 0 [] hgood (by rw [List.length_nil, Nat.zero_add]; exact hn)
  rw [List.nil_append] at hall
  refine ⟨mm, q, hall, alike_rows hmm hgood hz hx, ?_, hu⟩
  have := congrArg List.length hmm
  rw [List.length_map, List.length_map] at this
  rw [List.length_append, List.length_singleton, this]
  omega

set_option maxHeartbeats 16000000 in
set_option maxRecDepth 100000 in
theorem lexBack_good (s : ByteArray) (ts : List (Int × Lx.Tk)) (v : Value) (m : Int) (w : World) (hv : Toks w v ts) (hok : ∀ t ∈ ts, t.2.2.2 < 18446744073709551616 ∧ t.2.2.1.length ≤ 140737488351232) (hlen : ts.length ≤ 281474976710656)
    (hm : w.cell? ⟨1, 0, none⟩ = some (.int .i64 m)) (hw : 1 < w.heap.size) (htab : Lib.TabIs Tryd.prog w "internal/strconv.uint64pow10" .u64 Lib.pow10Tab) (hs : s.size ≤ 3000) (hn : ts.length ≤ 1000) (u0 : List UInt8) (hT0 : Lx.textL (ts.map (·.2)) = (u0, 0)) :
    Calls Tryd.prog 16 #[.string s, v] w fun e w' => e = .returned (.bool true) ∧ Below w.heap.size w w' := by
  obtain ⟨mm0, q0, hb1, hb2, hb3, hb4⟩ := back_good hT0 (fun t ht => (hok t ht).1)
  have hm' := Lib.hid hm
  have ht0 := Lib.hid htab
  have hv' := Lib.hid hv
  have hok' := Lib.hid hok
  have qa := Lib.hid (lexAlive m w hm hw)
  obtain ⟨A, cap, rfl, -, -⟩ := hv
  have hs1 : ¬ 3000 < (s.size : Int) := by omega
  have hs2 : ¬ 1000 < (ts.length : Int) := by omega
  have q6 := Lib.hid (fun w' hm hw => lex_any s m w' (by omega) hm hw)
  have qe := Lib.hid (fun w' hm hw => lex_any (strOf []) m w' (by decide) hm hw)
  have qt := Lib.hid (fun w' hv hm hw htab => lexText_any ts (.slice A ts.length cap) m w' hv hok'.out hlen hm hw htab)
  unfold TextOut at qt
  rw [hT0] at qt
  simp only at qt
  rw [show strOf [] = (⟨#[]⟩ : ByteArray) from rfl] at qe
  obtain ⟨U, hU⟩ : ∃ U, U = strOf u0 := ⟨_, rfl⟩
  rw [← hU] at qt
  have hUl : U.data.toList = u0 := by rw [hU, strOf_list]
  have ql := Lib.hid (fun w' hm hw => lex_any U m w' (by rw [← size_list, hUl]; exact hb4) hm hw)
  have hall' := Lib.hid (show Lx.Lexes U.data.toList (mm0 ++ [(q0, 0, [], 0)], 0, 0) from by rw [hUl]; exact hb1)
  have hrows := Lib.hid hb2
  have hlen2 := Lib.hid hb3
  clear hm htab hok hT0 hs hn hU hUl hb1 hb2 hb3 hb4
  go_enter Tryd.func16, Tryd.ntmps16
  go_wp2_with fail
  refine qa.out.mono ?_; rintro e w1 ⟨rfl, b1⟩
  have B1 := Lib.hid b1
  clear b1
  go_wp2_with fail
  refine (q6.out _ ?_ ?_).mono ?_
  · exact (B1.out.cell (p := ⟨1, 0, none⟩) hw).trans hm'.out
  · exact Nat.lt_of_lt_of_le hw B1.out.size
  rintro e w2 ⟨l, p, f, v6, hl, rfl, hr, hb⟩
  have B2 := Lib.hid (B1.out.trans (hb.mono B1.out.size))
  have hfin := Lx.lexes_final hl
  clear hb hl
  rcases hfin with ⟨mm, hres, hmm, hall, hpw⟩ | ⟨h1, h2, h3⟩
  · injection hres with e1 e2
    injection e2 with e2 e3
    subst e1 e2 e3
    have hT := hr.toks
    obtain ⟨A6, c6, rfl⟩ := hr.form
    obtain ⟨n, hn0⟩ : ∃ n, n = mm.length := ⟨_, rfl⟩
    have hT' := Lib.hid hT
    obtain ⟨A6', c6', hval, -, hT⟩ := hT
    have hT2 := hT.resolve_left (fun h => by simp at h)
    obtain ⟨g, o, hA, hg, hc⟩ := hT2
    injection hval with e4 e8 e9
    obtain rfl := e4.trans hA
    have hc' := Lib.hid hc
    have hk1 := Lib.hid (tok_known hall hpw).1
    have hk2 := Lib.hid (tok_known hall hpw).2
    have hmok := Lib.hid (fun x hx => (hall x hx).1.1)
    have hmm' := Lib.hid hmm
    have hn0' := Lib.hid hn0
    have hn1 : (n : Int) ≤ 16384 := by omega
    have hLl : (mm ++ [(s.data.toList.length, ((0, [], 0) : Lx.Tk))]).length = n + 1 := by rw [List.length_append, List.length_singleton, hn0]
    rw [hLl]
    have hLl' := Lib.hid hLl
    clear hT hA e4 e8 e9 hc hall hpw hmm hn0 hr hLl
    go_wp2_with fail
    go_loopw [9] (fun i wr => ∃ k : Nat, k ≤ n + 1 ∧ i = .int .i64 k ∧ Hid (Below w2.heap.size w2 wr)) (fun i _ => ((n : Int) + 1 - intOf i).toNat)
    case atStart => exact ⟨0, by omega, rfl, Lib.hid (Below.refl _ _)⟩
    case round =>
      obtain ⟨k, hk, rfl, H⟩ := hrel
      by_cases c : (k : Int) < (n : Int) + 1
      · obtain ⟨t, ht⟩ : ∃ t, (mm ++ [(s.data.toList.length, ((0, [], 0) : Lx.Tk))])[k]? = some t := ⟨_, List.getElem?_eq_getElem (by rw [hLl'.out]; omega)⟩
        have hkt := hk1.out k t ht
        obtain ⟨d0, d1, d2, d3⟩ := hc'.out k ((t.1 : Int), t.2) (by rw [List.getElem?_map, ht]; rfl)
        obtain ⟨pl, kd, T, y⟩ := t
        simp only at d0 d1 d2 d3
        have x0 := (H.out.cell (p := ⟨g, o + k * 4, none⟩) hg).trans d0
        have x1 := (H.out.cell (p := ⟨g, o + k * 4 + 1, none⟩) hg).trans d1
        have x2 := (H.out.cell (p := ⟨g, o + k * 4 + 2, none⟩) hg).trans d2
        have x3 := (H.out.cell (p := ⟨g, o + k * 4 + 3, none⟩) hg).trans d3
        clear d0 d1 d2 d3
        have hple : ¬ (s.size : Int) < pl := by have := hkt.place; rw [size_list] at this; simp only at this; omega
        have hpl2 : (pl : Int) ≤ s.size := by omega
        have hp0 : decide ((pl : Int) < 0) = false := decide_eq_false (by omega)
        have hp1 : decide (s.size < pl) = false := decide_eq_false (by omega)
        have hp2 : decide ((s.size : Int) < (pl : Int)) = false := decide_eq_false (by omega)
        have hsz : ∃ Ts, Ts = strOf T := ⟨_, rfl⟩
        obtain ⟨Ts, hTs⟩ := hsz
        rw [← hTs] at x2
        rcases Nat.eq_zero_or_pos k with hk0 | hk0
        · subst hk0
          simp only [Nat.zero_mul, Nat.add_zero] at x0 x1 x2 x3
          by_cases hkn : 0 = n
          · have e0 := hkt.last (hkn.trans hn0'.out)
            simp only at e0
            subst e0
            have hq6 : (n : Int) = 0 := by omega
            have hq : ((0 : Int) == (n : Int)) = true := by rw [hq6]; rfl
            have hq3 : decide (n = 0) = true := decide_eq_true (by omega)
            have hq4 : decide (0 = n) = true := decide_eq_true (by omega)
            have hq5 : decide ((0 : Int) = (n : Int)) = true := decide_eq_true (by omega)
            clear hkn
            clear hkt ht hTs
            try clear q6
            try clear qe
            try clear qt
            try clear ql
            try clear hall'
            try clear hrows
            try clear hlen2
            try clear hT'
            try clear hc'
            try clear hk1
            try clear hk2
            try clear hmok
            try clear hmm'
            try clear hn0'
            try clear hLl'
            try clear hv'
            try clear ht0
            try clear hok'
            try clear B1
            try clear B2
            try clear hm'
            try clear qa
            go_wp2_with fail
            go_quiet (fail)
            go_wp2_with fail
            go_quiet (fail)
            go_wp2_with fail
            refine ⟨?_, ?_⟩
            · iterate 120 (try (refine @Exists.intro Value _ _ ?_))
              first | (refine ⟨?_, rfl⟩; exact ⟨1, by omega, by go_num, Lib.hid (Below.drewN_ (H.out.alloc H.out.size _) _)⟩) | (exact ⟨1, by omega, by go_num, Lib.hid (Below.drewN_ (H.out.alloc H.out.size _) _)⟩)
            · simp [intOf] <;> omega
            skip
          · have hq : ((0 : Int) == (n : Int)) = false := by simp; omega
            have hq2 : ¬ (0 : Int) = (n : Int) := by omega
            have hq3 : decide (n = 0) = false := decide_eq_false (by omega)
            have hq4 : decide (0 = n) = false := decide_eq_false (by omega)
            have hq5 : decide ((0 : Int) = (n : Int)) = false := decide_eq_false (by omega)
            have hoth := hkt.other (by have := hn0'.out; omega)
            simp only at hoth
            rcases hoth with h | h | h | h | h
            · subst h
              obtain ⟨g1, g2⟩ := hkt.plain (by simp)
              simp only at g1 g2
              have hex := ext_text g2
              rw [← hTs] at hex
              rw [size_list] at g1
              have g3 : pl + Ts.size ≤ s.size := by rw [hTs, ← size_list, strOf_list]; exact g1
              have g4 : decide ((s.size : Int) < (pl : Int) + Ts.size) = false := decide_eq_false (by omega)
              have g5 : decide (s.size < pl + Ts.size) = false := decide_eq_false (by omega)
              clear hkt ht hTs g1 g2 hkn
              try clear q6
              try clear qe
              try clear qt
              try clear ql
              try clear hall'
              try clear hrows
              try clear hlen2
              try clear hT'
              try clear hc'
              try clear hk1
              try clear hk2
              try clear hmok
              try clear hmm'
              try clear hn0'
              try clear hLl'
              try clear hv'
              try clear ht0
              try clear hok'
              try clear B1
              try clear B2
              try clear hm'
              try clear qa
              go_wp2_with fail
              go_quiet (fail)
              go_wp2_with fail
              go_quiet (fail)
              go_wp2_with fail
              refine ⟨?_, ?_⟩
              · iterate 120 (try (refine @Exists.intro Value _ _ ?_))
                first | (refine ⟨?_, rfl⟩; exact ⟨1, by omega, by go_num, Lib.hid (Below.drewN_ (H.out.alloc H.out.size _) _)⟩) | (exact ⟨1, by omega, by go_num, Lib.hid (Below.drewN_ (H.out.alloc H.out.size _) _)⟩)
              · simp [intOf] <;> omega
              skip
            · subst h
              obtain ⟨g1, g2⟩ := hkt.plain (by simp)
              simp only at g1 g2
              have hex := ext_text g2
              rw [← hTs] at hex
              rw [size_list] at g1
              have g3 : pl + Ts.size ≤ s.size := by rw [hTs, ← size_list, strOf_list]; exact g1
              have g4 : decide ((s.size : Int) < (pl : Int) + Ts.size) = false := decide_eq_false (by omega)
              have g5 : decide (s.size < pl + Ts.size) = false := decide_eq_false (by omega)
              clear hkt ht hTs g1 g2 hkn
              try clear q6
              try clear qe
              try clear qt
              try clear ql
              try clear hall'
              try clear hrows
              try clear hlen2
              try clear hT'
              try clear hc'
              try clear hk1
              try clear hk2
              try clear hmok
              try clear hmm'
              try clear hn0'
              try clear hLl'
              try clear hv'
              try clear ht0
              try clear hok'
              try clear B1
              try clear B2
              try clear hm'
              try clear qa
              go_wp2_with fail
              go_quiet (fail)
              go_wp2_with fail
              go_quiet (fail)
              go_wp2_with fail
              refine ⟨?_, ?_⟩
              · iterate 120 (try (refine @Exists.intro Value _ _ ?_))
                first | (refine ⟨?_, rfl⟩; exact ⟨1, by omega, by go_num, Lib.hid (Below.drewN_ (H.out.alloc H.out.size _) _)⟩) | (exact ⟨1, by omega, by go_num, Lib.hid (Below.drewN_ (H.out.alloc H.out.size _) _)⟩)
              · simp [intOf] <;> omega
              skip
            · subst h
              clear hkt ht hTs hkn
              try clear q6
              try clear qe
              try clear qt
              try clear ql
              try clear hall'
              try clear hrows
              try clear hlen2
              try clear hT'
              try clear hc'
              try clear hk1
              try clear hk2
              try clear hmok
              try clear hmm'
              try clear hn0'
              try clear hLl'
              try clear hv'
              try clear ht0
              try clear hok'
              try clear B1
              try clear B2
              try clear hm'
              try clear qa
              go_wp2_with fail
              go_quiet (fail)
              go_wp2_with fail
              go_quiet (fail)
              go_wp2_with fail
              refine ⟨?_, ?_⟩
              · iterate 120 (try (refine @Exists.intro Value _ _ ?_))
                first | (refine ⟨?_, rfl⟩; exact ⟨1, by omega, by go_num, Lib.hid (Below.drewN_ (H.out.alloc H.out.size _) _)⟩) | (exact ⟨1, by omega, by go_num, Lib.hid (Below.drewN_ (H.out.alloc H.out.size _) _)⟩)
              · simp [intOf] <;> omega
              skip
            · subst h
              clear hkt ht hTs hkn
              try clear q6
              try clear qe
              try clear qt
              try clear ql
              try clear hall'
              try clear hrows
              try clear hlen2
              try clear hT'
              try clear hc'
              try clear hk1
              try clear hk2
              try clear hmok
              try clear hmm'
              try clear hn0'
              try clear hLl'
              try clear hv'
              try clear ht0
              try clear hok'
              try clear B1
              try clear B2
              try clear hm'
              try clear qa
              go_wp2_with fail
              go_quiet (fail)
              go_wp2_with fail
              go_quiet (fail)
              go_wp2_with fail
              refine ⟨?_, ?_⟩
              · iterate 120 (try (refine @Exists.intro Value _ _ ?_))
                first | (refine ⟨?_, rfl⟩; exact ⟨1, by omega, by go_num, Lib.hid (Below.drewN_ (H.out.alloc H.out.size _) _)⟩) | (exact ⟨1, by omega, by go_num, Lib.hid (Below.drewN_ (H.out.alloc H.out.size _) _)⟩)
              · simp [intOf] <;> omega
              skip
            · subst h
              obtain ⟨g1, g2⟩ := hkt.plain (by simp)
              simp only at g1 g2
              have hex := ext_text g2
              rw [← hTs] at hex
              rw [size_list] at g1
              have g3 : pl + Ts.size ≤ s.size := by rw [hTs, ← size_list, strOf_list]; exact g1
              have g4 : decide ((s.size : Int) < (pl : Int) + Ts.size) = false := decide_eq_false (by omega)
              have g5 : decide (s.size < pl + Ts.size) = false := decide_eq_false (by omega)
              clear hkt ht hTs g1 g2 hkn
              try clear q6
              try clear qe
              try clear qt
              try clear ql
              try clear hall'
              try clear hrows
              try clear hlen2
              try clear hT'
              try clear hc'
              try clear hk1
              try clear hk2
              try clear hmok
              try clear hmm'
              try clear hn0'
              try clear hLl'
              try clear hv'
              try clear ht0
              try clear hok'
              try clear B1
              try clear B2
              try clear hm'
              try clear qa
              go_wp2_with fail
              go_quiet (fail)
              go_wp2_with fail
              go_quiet (fail)
              go_wp2_with fail
              refine ⟨?_, ?_⟩
              · iterate 120 (try (refine @Exists.intro Value _ _ ?_))
                first | (refine ⟨?_, rfl⟩; exact ⟨1, by omega, by go_num, Lib.hid (Below.drewN_ (H.out.alloc H.out.size _) _)⟩) | (exact ⟨1, by omega, by go_num, Lib.hid (Below.drewN_ (H.out.alloc H.out.size _) _)⟩)
              · simp [intOf] <;> omega
              skip
        · obtain ⟨j, rfl⟩ : ∃ j, k = j + 1 := ⟨k - 1, by omega⟩
          obtain ⟨t', ht'⟩ : ∃ t', (mm ++ [(s.data.toList.length, ((0, [], 0) : Lx.Tk))])[j]? = some t' := ⟨_, List.getElem?_eq_getElem (by rw [hLl'.out]; omega)⟩
          have hlt := hk2.out j _ _ ht' ht
          obtain ⟨_, d1, _, _⟩ := hc'.out j ((t'.1 : Int), t'.2) (by rw [List.getElem?_map, ht']; rfl)
          have z1 := (H.out.cell (p := ⟨g, o + j * 4 + 1, none⟩) hg).trans d1
          obtain ⟨pq, rest⟩ := t'
          simp only at hlt z1
          have z2 : ∀ ob : Obj, (wr.alloc ob).cell? ⟨g, o + j * 4 + 1, none⟩ = some (.int .i64 pq) := fun ob => (World.cell?_alloc_lt _ _ ⟨g, _, none⟩ (Nat.lt_of_lt_of_le hg H.out.size)).trans z1
          have hq0 : decide (pl ≤ pq) = false := decide_eq_false (by omega)
          have hq1 : decide ((pl : Int) ≤ (pq : Int)) = false := decide_eq_false (by omega)
          have hj0 : decide (0 < (j : Int) + 1) = true := decide_eq_true (by omega)
          clear d1 ht' hlt hk0
          have hb1 : (j : Int) < (n : Int) + 1 := by omega
          have hb2 : j < n + 1 := by omega
          have hb3 : (0 : Int) ≤ (j : Int) := by omega
          have hb4 : (j : Int) ≤ 16384 := by omega
          have hwj : IntKind.i64.wrap (j : Int) = (j : Int) := IntWalk.i64_in _ (by omega)
          by_cases hkn : j + 1 = n
          · have e0 := hkt.last (hkn.trans hn0'.out)
            simp only at e0
            subst e0
            subst hkn
            have hb5 : (j : Int) < (j : Int) + 1 + 1 := by omega
            have hb6 : j < j + 1 + 1 := by omega
            clear hkt ht hTs
            try clear q6
            try clear qe
            try clear qt
            try clear ql
            try clear hall'
            try clear hrows
            try clear hlen2
            try clear hT'
            try clear hc'
            try clear hk1
            try clear hk2
            try clear hmok
            try clear hmm'
            try clear hn0'
            try clear hLl'
            try clear hv'
            try clear ht0
            try clear hok'
            try clear B1
            try clear B2
            try clear hm'
            try clear qa
            go_wp2_with fail
            go_quiet (fail)
            go_wp2_with fail
            go_quiet (fail)
            go_wp2_with fail
            refine ⟨?_, ?_⟩
            · iterate 120 (try (refine @Exists.intro Value _ _ ?_))
              first | (refine ⟨?_, rfl⟩; exact ⟨j + 2, by omega, by go_num, Lib.hid (Below.drewN_ (H.out.alloc H.out.size _) _)⟩) | (exact ⟨j + 2, by omega, by go_num, Lib.hid (Below.drewN_ (H.out.alloc H.out.size _) _)⟩)
            · simp [intOf] <;> omega
            skip
          · have hq : (((j : Int) + 1 : Int) == (n : Int)) = false := by simp; omega
            have hq2 : ¬ ((j : Int) + 1 : Int) = (n : Int) := by omega
            have hq3 : decide (n = j + 1) = false := decide_eq_false (by omega)
            have hq4 : decide (j + 1 = n) = false := decide_eq_false (by omega)
            have hq5 : decide ((j : Int) + 1 = (n : Int)) = false := decide_eq_false (by omega)
            have hoth := hkt.other (by have := hn0'.out; omega)
            simp only at hoth
            rcases hoth with h | h | h | h | h
            · subst h
              obtain ⟨g1, g2⟩ := hkt.plain (by simp)
              simp only at g1 g2
              have hex := ext_text g2
              rw [← hTs] at hex
              rw [size_list] at g1
              have g3 : pl + Ts.size ≤ s.size := by rw [hTs, ← size_list, strOf_list]; exact g1
              have g4 : decide ((s.size : Int) < (pl : Int) + Ts.size) = false := decide_eq_false (by omega)
              have g5 : decide (s.size < pl + Ts.size) = false := decide_eq_false (by omega)
              clear hkt ht hTs g1 g2 hkn
              try clear q6
              try clear qe
              try clear qt
              try clear ql
              try clear hall'
              try clear hrows
              try clear hlen2
              try clear hT'
              try clear hc'
              try clear hk1
              try clear hk2
              try clear hmok
              try clear hmm'
              try clear hn0'
              try clear hLl'
              try clear hv'
              try clear ht0
              try clear hok'
              try clear B1
              try clear B2
              try clear hm'
              try clear qa
              go_wp2_with fail
              go_quiet (fail)
              go_wp2_with fail
              go_quiet (fail)
              go_wp2_with fail
              refine ⟨?_, ?_⟩
              · iterate 120 (try (refine @Exists.intro Value _ _ ?_))
                first | (refine ⟨?_, rfl⟩; exact ⟨j + 2, by omega, by go_num, Lib.hid (Below.drewN_ (H.out.alloc H.out.size _) _)⟩) | (exact ⟨j + 2, by omega, by go_num, Lib.hid (Below.drewN_ (H.out.alloc H.out.size _) _)⟩)
              · simp [intOf] <;> omega
              skip
            · subst h
              obtain ⟨g1, g2⟩ := hkt.plain (by simp)
              simp only at g1 g2
              have hex := ext_text g2
              rw [← hTs] at hex
              rw [size_list] at g1
              have g3 : pl + Ts.size ≤ s.size := by rw [hTs, ← size_list, strOf_list]; exact g1
              have g4 : decide ((s.size : Int) < (pl : Int) + Ts.size) = false := decide_eq_false (by omega)
              have g5 : decide (s.size < pl + Ts.size) = false := decide_eq_false (by omega)
              clear hkt ht hTs g1 g2 hkn
              try clear q6
              try clear qe
              try clear qt
              try clear ql
              try clear hall'
              try clear hrows
              try clear hlen2
              try clear hT'
              try clear hc'
              try clear hk1
              try clear hk2
              try clear hmok
              try clear hmm'
              try clear hn0'
              try clear hLl'
              try clear hv'
              try clear ht0
              try clear hok'
              try clear B1
              try clear B2
              try clear hm'
              try clear qa
              go_wp2_with fail
              go_quiet (fail)
              go_wp2_with fail
              go_quiet (fail)
              go_wp2_with fail
              refine ⟨?_, ?_⟩
              · iterate 120 (try (refine @Exists.intro Value _ _ ?_))
                first | (refine ⟨?_, rfl⟩; exact ⟨j + 2, by omega, by go_num, Lib.hid (Below.drewN_ (H.out.alloc H.out.size _) _)⟩) | (exact ⟨j + 2, by omega, by go_num, Lib.hid (Below.drewN_ (H.out.alloc H.out.size _) _)⟩)
              · simp [intOf] <;> omega
              skip
            · subst h
              clear hkt ht hTs hkn
              try clear q6
              try clear qe
              try clear qt
              try clear ql
              try clear hall'
              try clear hrows
              try clear hlen2
              try clear hT'
              try clear hc'
              try clear hk1
              try clear hk2
              try clear hmok
              try clear hmm'
              try clear hn0'
              try clear hLl'
              try clear hv'
              try clear ht0
              try clear hok'
              try clear B1
              try clear B2
              try clear hm'
              try clear qa
              go_wp2_with fail
              go_quiet (fail)
              go_wp2_with fail
              go_quiet (fail)
              go_wp2_with fail
              refine ⟨?_, ?_⟩
              · iterate 120 (try (refine @Exists.intro Value _ _ ?_))
                first | (refine ⟨?_, rfl⟩; exact ⟨j + 2, by omega, by go_num, Lib.hid (Below.drewN_ (H.out.alloc H.out.size _) _)⟩) | (exact ⟨j + 2, by omega, by go_num, Lib.hid (Below.drewN_ (H.out.alloc H.out.size _) _)⟩)
              · simp [intOf] <;> omega
              skip
            · subst h
              clear hkt ht hTs hkn
              try clear q6
              try clear qe
              try clear qt
              try clear ql
              try clear hall'
              try clear hrows
              try clear hlen2
              try clear hT'
              try clear hc'
              try clear hk1
              try clear hk2
              try clear hmok
              try clear hmm'
              try clear hn0'
              try clear hLl'
              try clear hv'
              try clear ht0
              try clear hok'
              try clear B1
              try clear B2
              try clear hm'
              try clear qa
              go_wp2_with fail
              go_quiet (fail)
              go_wp2_with fail
              go_quiet (fail)
              go_wp2_with fail
              refine ⟨?_, ?_⟩
              · iterate 120 (try (refine @Exists.intro Value _ _ ?_))
                first | (refine ⟨?_, rfl⟩; exact ⟨j + 2, by omega, by go_num, Lib.hid (Below.drewN_ (H.out.alloc H.out.size _) _)⟩) | (exact ⟨j + 2, by omega, by go_num, Lib.hid (Below.drewN_ (H.out.alloc H.out.size _) _)⟩)
              · simp [intOf] <;> omega
              skip
            · subst h
              obtain ⟨g1, g2⟩ := hkt.plain (by simp)
              simp only at g1 g2
              have hex := ext_text g2
              rw [← hTs] at hex
              rw [size_list] at g1
              have g3 : pl + Ts.size ≤ s.size := by rw [hTs, ← size_list, strOf_list]; exact g1
              have g4 : decide ((s.size : Int) < (pl : Int) + Ts.size) = false := decide_eq_false (by omega)
              have g5 : decide (s.size < pl + Ts.size) = false := decide_eq_false (by omega)
              clear hkt ht hTs g1 g2 hkn
              try clear q6
              try clear qe
              try clear qt
              try clear ql
              try clear hall'
              try clear hrows
              try clear hlen2
              try clear hT'
              try clear hc'
              try clear hk1
              try clear hk2
              try clear hmok
              try clear hmm'
              try clear hn0'
              try clear hLl'
              try clear hv'
              try clear ht0
              try clear hok'
              try clear B1
              try clear B2
              try clear hm'
              try clear qa
              go_wp2_with fail
              go_quiet (fail)
              go_wp2_with fail
              go_quiet (fail)
              go_wp2_with fail
              refine ⟨?_, ?_⟩
              · iterate 120 (try (refine @Exists.intro Value _ _ ?_))
                first | (refine ⟨?_, rfl⟩; exact ⟨j + 2, by omega, by go_num, Lib.hid (Below.drewN_ (H.out.alloc H.out.size _) _)⟩) | (exact ⟨j + 2, by omega, by go_num, Lib.hid (Below.drewN_ (H.out.alloc H.out.size _) _)⟩)
              · simp [intOf] <;> omega
              skip
      · have hkn : k = n + 1 := by omega
        have B5 := Lib.hid (B2.out.trans (H.out.mono B2.out.size))
        have hT5 := Lib.hid (hT'.out.below H.out)
        have qm := Lib.hid (fun hm hw htab => lexText_any _ _ m wr hT5.out (fun t ht => by
    obtain ⟨u, hu, rfl⟩ := List.mem_map.1 ht
    rcases List.mem_append.1 hu with h | h
    · exact ⟨okB_num_lt (hmok.out u h), Nat.le_trans (okB_len (hmok.out u h)) (by decide)⟩
    · obtain rfl := List.mem_singleton.1 h; exact ⟨by simp, by simp⟩) (by rw [List.length_map, hLl'.out]; have := hmm'.out; have := hn0'.out; omega) hm hw htab)
        unfold TextOut at qm
        rw [hLl'.out] at qm
        rcases textL_own (q := s.data.toList.length) hmok.out hmm'.out with hTx | ⟨hTx, hTl⟩
        · rw [hTx] at qm
          simp only at qm
          rw [show strOf [] = (⟨#[]⟩ : ByteArray) from rfl] at qm
          clear hTx hk
          go_wp2_with fail
          refine (qm.out ?_ ?_ ?_).mono ?_
          · exact (B5.out.cell (p := ⟨1, 0, none⟩) hw).trans hm'.out
          · exact Nat.lt_of_lt_of_le hw B5.out.size
          · exact tab_below ht0.out B5.out (tab_size ht0.out)
          rintro e w6 ⟨rfl, b6⟩
          have B6 := Lib.hid (B5.out.trans (b6.mono B5.out.size))
          clear b6
          go_wp2_with fail
          refine (qe.out _ ?_ ?_).mono ?_
          · exact (B6.out.cell (p := ⟨1, 0, none⟩) hw).trans hm'.out
          · exact Nat.lt_of_lt_of_le hw B6.out.size
          rintro e w7 ⟨l3, p3, f3, v3, hl3, rfl, hr3, hb3⟩
          obtain ⟨A9, c9, rfl⟩ := hr3.form
          have B7 := Lib.hid (B6.out.trans (hb3.mono B6.out.size))
          clear hb3 hr3 hl3
          go_wp2_with fail
          refine (qt.out _ (hv'.out.below B7.out) ?_ ?_ ?_).mono ?_
          · exact (B7.out.cell (p := ⟨1, 0, none⟩) hw).trans hm'.out
          · exact Nat.lt_of_lt_of_le hw B7.out.size
          · exact tab_below ht0.out B7.out (tab_size ht0.out)
          rintro e w20 ⟨rfl, b20⟩
          have B20 := Lib.hid (B7.out.trans (b20.mono B7.out.size))
          clear b20
          go_wp2_with fail
          refine (ql.out _ ?_ ?_).mono ?_
          · exact (B20.out.cell (p := ⟨1, 0, none⟩) hw).trans hm'.out
          · exact Nat.lt_of_lt_of_le hw B20.out.size
          rintro e w21 ⟨l2, p2, f2, v2, hl2, rfl, hr2, hb2⟩
          have hd2 := Lx.Ends.det hl2 hall'.out
          injection hd2 with e1 e2
          injection e2 with e2 e3
          subst e1 e2 e3
          have B21 := Lib.hid (B20.out.trans (hb2.mono B20.out.size))
          obtain ⟨A7, c7', rfl⟩ := hr2.form
          have qs := Lib.hid (sameTok_true _ _ _ _ w21 hr2.toks (hv'.out.below B21.out) hrows.out.1 (by rw [List.length_map]; exact hlen2.out) hrows.out.2)
          simp only [List.length_append, List.length_singleton] at qs
          clear hb2 hr2 hl2
          go_wp2_with fail
          refine qs.out.mono ?_
          rintro e w22 ⟨rfl, b22⟩
          have B22 := Lib.hid (B21.out.trans (b22.mono B21.out.size))
          clear b22
          go_wp2
          try rw [Exit.noGoto_ret]
          go_ret
          exact ⟨rfl, B22.out⟩
        · rw [hTx] at qm
          obtain ⟨m2, q2, hj1, hj2⟩ := Lx.lex_join (mm.map (·.2)) 0 [] (fun t ht => by obtain ⟨u, hu, rfl⟩ := List.mem_map.1 ht; exact hmok.out u hu) (by simp; have := hmm'.out; omega)
          have hj3 := Lib.hid (show Lx.Lexes (strOf (Lx.joinL (mm.map (·.2)))).data.toList (m2 ++ [(q2, 0, [], 0)], 0, 0) from by rw [strOf_list]; rw [List.nil_append] at hj1; exact hj1)
          have hrw := Lib.hid (own_rows (q := s.data.toList.length) (q2 := q2) hmok.out hj2)
          have hm2 : m2.length = mm.length := by have := congrArg List.length hj2; simpa using this
          have hll := Lib.hid (show (m2 ++ [(q2, ((0, [], 0) : Lx.Tk))]).length ≤ 100000 from by rw [List.length_append, hm2, List.length_singleton]; have := hmm'.out; omega)
          have qu := Lib.hid (fun w' hm hw => lex_any (strOf (Lx.joinL (mm.map (·.2)))) m w' (by rw [← size_list, strOf_list]; exact hTl) hm hw)
          obtain ⟨U, hU⟩ : ∃ U, U = strOf (Lx.joinL (mm.map (·.2))) := ⟨_, rfl⟩
          simp only at qm
          rw [← hU] at qm qu hj3
          clear hTx hTl hk hj1 hj2 hm2 hU
          go_wp2_with fail
          refine (qm.out ?_ ?_ ?_).mono ?_
          · exact (B5.out.cell (p := ⟨1, 0, none⟩) hw).trans hm'.out
          · exact Nat.lt_of_lt_of_le hw B5.out.size
          · exact tab_below ht0.out B5.out (tab_size ht0.out)
          rintro e w6 ⟨rfl, b6⟩
          have B6 := Lib.hid (B5.out.trans (b6.mono B5.out.size))
          have hT6 := Lib.hid (hT5.out.below b6)
          clear b6
          go_wp2_with fail
          refine (qu.out _ ?_ ?_).mono ?_
          · exact (B6.out.cell (p := ⟨1, 0, none⟩) hw).trans hm'.out
          · exact Nat.lt_of_lt_of_le hw B6.out.size
          rintro e w7 ⟨l3, p3, f3, v3, hl3, rfl, hr3, hb3⟩
          have hd3 := Lx.Ends.det hl3 hj3.out
          injection hd3 with e1 e2
          injection e2 with e2 e3
          subst e1 e2 e3
          have hT7 := hT6.out.below hb3
          have hlast : List.map (fun (t : Nat × Lx.Tk) => ((t.1 : Int), t.2)) (mm ++ [(s.data.toList.length, ((0, [], 0) : Lx.Tk))]) = (mm.map fun (t : Nat × Lx.Tk) => ((t.1 : Int), t.2)) ++ [((s.data.toList.length : Int), (0, [], 0))] := by simp
          rw [hlast] at hT7
          obtain ⟨A9, c9, rfl⟩ := hr3.form
          have B7 := Lib.hid (B6.out.trans (hb3.mono B6.out.size))
          have q8 := Lib.hid (sameTok_true _ _ _ _ w7 hr3.toks hT7 hrw.out.1 (by rw [List.length_map]; exact hll.out) hrw.out.2)
          rw [hLl'.out] at q8
          simp only [List.length_append, List.length_singleton] at q8
          clear hb3 hr3 hl3 hT7 hlast
          go_wp2_with fail
          refine q8.out.mono ?_
          rintro e w8 ⟨rfl, b8⟩
          have B8 := Lib.hid (B7.out.trans (b8.mono B7.out.size))
          clear b8
          go_wp2_with fail
          refine (qt.out _ (hv'.out.below B8.out) ?_ ?_ ?_).mono ?_
          · exact (B8.out.cell (p := ⟨1, 0, none⟩) hw).trans hm'.out
          · exact Nat.lt_of_lt_of_le hw B8.out.size
          · exact tab_below ht0.out B8.out (tab_size ht0.out)
          rintro e w20 ⟨rfl, b20⟩
          have B20 := Lib.hid (B8.out.trans (b20.mono B8.out.size))
          clear b20
          go_wp2_with fail
          refine (ql.out _ ?_ ?_).mono ?_
          · exact (B20.out.cell (p := ⟨1, 0, none⟩) hw).trans hm'.out
          · exact Nat.lt_of_lt_of_le hw B20.out.size
          rintro e w21 ⟨l2, p2, f2, v2, hl2, rfl, hr2, hb2⟩
          have hd2 := Lx.Ends.det hl2 hall'.out
          injection hd2 with e1 e2
          injection e2 with e2 e3
          subst e1 e2 e3
          have B21 := Lib.hid (B20.out.trans (hb2.mono B20.out.size))
          obtain ⟨A7, c7', rfl⟩ := hr2.form
          have qs := Lib.hid (sameTok_true _ _ _ _ w21 hr2.toks (hv'.out.below B21.out) hrows.out.1 (by rw [List.length_map]; exact hlen2.out) hrows.out.2)
          simp only [List.length_append, List.length_singleton] at qs
          clear hb2 hr2 hl2
          go_wp2_with fail
          refine qs.out.mono ?_
          rintro e w22 ⟨rfl, b22⟩
          have B22 := Lib.hid (B21.out.trans (b22.mono B21.out.size))
          clear b22
          go_wp2
          try rw [Exit.noGoto_ret]
          go_ret
          exact ⟨rfl, B22.out⟩
  · simp only at h1 h2 h3
    subst h1
    obtain ⟨A6, c6, rfl⟩ := hr.form
    have h2' : ¬ (s.size : Int) < p := by rw [size_list] at h2; omega
    clear hr h2
    rcases h3 with rfl | rfl
    · go_wp2_with fail
      refine (qt.out _ (hv'.out.below B2.out) ?_ ?_ ?_).mono ?_
      · exact (B2.out.cell (p := ⟨1, 0, none⟩) hw).trans hm'.out
      · exact Nat.lt_of_lt_of_le hw B2.out.size
      · exact tab_below ht0.out B2.out (tab_size ht0.out)
      rintro e w20 ⟨rfl, b20⟩
      have B20 := Lib.hid (B2.out.trans (b20.mono B2.out.size))
      clear b20
      go_wp2_with fail
      refine (ql.out _ ?_ ?_).mono ?_
      · exact (B20.out.cell (p := ⟨1, 0, none⟩) hw).trans hm'.out
      · exact Nat.lt_of_lt_of_le hw B20.out.size
      rintro e w21 ⟨l2, p2, f2, v2, hl2, rfl, hr2, hb2⟩
      have hd2 := Lx.Ends.det hl2 hall'.out
      injection hd2 with e1 e2
      injection e2 with e2 e3
      subst e1 e2 e3
      have B21 := Lib.hid (B20.out.trans (hb2.mono B20.out.size))
      obtain ⟨A7, c7', rfl⟩ := hr2.form
      have qs := Lib.hid (sameTok_true _ _ _ _ w21 hr2.toks (hv'.out.below B21.out) hrows.out.1 (by rw [List.length_map]; exact hlen2.out) hrows.out.2)
      simp only [List.length_append, List.length_singleton] at qs
      clear hb2 hr2 hl2
      go_wp2_with fail
      refine qs.out.mono ?_
      rintro e w22 ⟨rfl, b22⟩
      have B22 := Lib.hid (B21.out.trans (b22.mono B21.out.size))
      clear b22
      go_wp2
      try rw [Exit.noGoto_ret]
      go_ret
      exact ⟨rfl, B22.out⟩
    · go_wp2_with fail
      refine (qt.out _ (hv'.out.below B2.out) ?_ ?_ ?_).mono ?_
      · exact (B2.out.cell (p := ⟨1, 0, none⟩) hw).trans hm'.out
      · exact Nat.lt_of_lt_of_le hw B2.out.size
      · exact tab_below ht0.out B2.out (tab_size ht0.out)
      rintro e w20 ⟨rfl, b20⟩
      have B20 := Lib.hid (B2.out.trans (b20.mono B2.out.size))
      clear b20
      go_wp2_with fail
      refine (ql.out _ ?_ ?_).mono ?_
      · exact (B20.out.cell (p := ⟨1, 0, none⟩) hw).trans hm'.out
      · exact Nat.lt_of_lt_of_le hw B20.out.size
      rintro e w21 ⟨l2, p2, f2, v2, hl2, rfl, hr2, hb2⟩
      have hd2 := Lx.Ends.det hl2 hall'.out
      injection hd2 with e1 e2
      injection e2 with e2 e3
      subst e1 e2 e3
      have B21 := Lib.hid (B20.out.trans (hb2.mono B20.out.size))
      obtain ⟨A7, c7', rfl⟩ := hr2.form
      have qs := Lib.hid (sameTok_true _ _ _ _ w21 hr2.toks (hv'.out.below B21.out) hrows.out.1 (by rw [List.length_map]; exact hlen2.out) hrows.out.2)
      simp only [List.length_append, List.length_singleton] at qs
      clear hb2 hr2 hl2
      go_wp2_with fail
      refine qs.out.mono ?_
      rintro e w22 ⟨rfl, b22⟩
      have B22 := Lib.hid (B21.out.trans (b22.mono B21.out.size))
      clear b22
      go_wp2
      try rw [Exit.noGoto_ret]
      go_ret
      exact ⟨rfl, B22.out⟩

theorem lexBack_walk (s : ByteArray) (ts : List (Int × Lx.Tk)) (v : Value) (m : Int) (w : World) (hv : Toks w v ts) (hok : ∀ t ∈ ts, t.2.2.2 < 18446744073709551616 ∧ t.2.2.1.length ≤ 140737488351232) (hlen : ts.length ≤ 281474976710656)
    (hm : w.cell? ⟨1, 0, none⟩ = some (.int .i64 m)) (hw : 1 < w.heap.size) (htab : Lib.TabIs Tryd.prog w "internal/strconv.uint64pow10" .u64 Lib.pow10Tab) :
    Calls Tryd.prog 16 #[.string s, v] w fun e w' => e = .returned (.bool true) ∧ Below w.heap.size w w' := by
  by_cases hbig : 3000 < s.size ∨ 1000 < ts.length
  · exact lexBack_long s ts v m w hv hok hlen hm hw htab hbig
  · obtain ⟨u, f, hT⟩ : ∃ u f, Lx.textL (ts.map (·.2)) = (u, f) := ⟨_, _, rfl⟩
    by_cases hf : f = 0
    · subst hf
      exact lexBack_good s ts v m w hv hok hlen hm hw htab (by omega) (by omega) u hT
    · obtain rfl := textL_bad hT hf
      exact lexBack_bad s ts v m w hv hok hlen hm hw htab (by omega) (by omega) f hT hf
end Go.Proofs.YtajmdpndbfmdmaaDoor
