/-
  The document's Plain returns the same. Conditions: none.
-/
import Derived.Test.YtajmdpndbfmdmaaDoorSt
import Derived.Deep.QuietTactic
import Derived.BigQuiet
import Derived.IntWalk
import Derived.WalkSmall
import Derived.Laws.IdiomStrings
namespace Go.Proofs.YtajmdpndbfmdmaaDoor
open Go Go.RowKit

/-- A slice of bytes that this call has made and that holds l: and what lay there before is as it was. -/
def Sw (w : World) (l : List UInt8) (ao : Option Addr) (cap : Nat) (w' : World) : Prop := w'.ownsRow w.heap.size 5 1 (.slice ao l.length cap) l.length (Lib.byteCells l) ∧ Below w.heap.size w w'

theorem sw_new (w : World) : Sw w [] none 0 w := ⟨World.ownsRow_nil _ _ _ _, Below.refl _ _⟩

theorem one_new (w : World) (v : Value) (t : TypeId) : ∀ j u, [v][j]? = some u → (w.alloc (.cells #[v] t)).cell? ((⟨w.heap.size, 0, none⟩ : Addr).add j) = some u := by
  intro j u hj
  match j, hj with
  | 0, hj => simp at hj; subst hj; simp [Addr.add]

theorem sw_app {w wr w2 : World} {l : List UInt8} {ao : Option Addr} {cap : Nat} {o : Obj} {u : UInt8} {v' : Value} (h : Sw w l ao cap wr)
    (hown : w2.ownsRow w.heap.size 5 1 v' (l.length + 1) (Lib.byteCells l ++ [.int .u8 u.toNat])) (hg : (wr.alloc o).grownBy w2 (Value.slice ao l.length cap).ownBlock) :
    ∃ ao2 cap2, v' = .slice ao2 (l ++ [u]).length cap2 ∧ Sw w (l ++ [u]) ao2 cap2 w2 := by
  obtain ⟨g, cap2, rfl⟩ : ∃ g cap2, v' = .slice (some ⟨g, 0, none⟩) (l.length + 1) cap2 := by
    rcases hown.2 with ⟨_, h0⟩ | ⟨g, cap, cur, hv, _⟩
    · omega
    · exact ⟨g, cap, hv⟩
  refine ⟨some ⟨g, 0, none⟩, cap2, by simp, ?_, ?_⟩
  · rw [byteCells_snoc]; simpa using hown
  · exact (h.2.alloc (by have := h.2.size; omega) _).grown hg (by have := h.2.size; simp; omega) (fun k hk => (h.1.lt k hk).1)
set_option maxRecDepth 100000 in
theorem sw_conv {w wr : World} {l : List UInt8} {ao : Option Addr} {cap : Nat} (h : Sw w l ao cap wr) :
    (convert 84 9 (.slice ao l.length cap)).run Tryd.prog wr = .ok (.string (strOf l)) wr := by
  rcases h.1.2 with ⟨hv, h0⟩ | ⟨g, cap', cur, hv, _⟩
  · injection hv with h1 h2 h3
    have : l = [] := List.eq_nil_of_length_eq_zero h0
    subst this h1 h3
    rw [run_convert_bytes_string wr _ _ _ none _ 0 Tryd.underlying84 Tryd.underlying5 Tryd.underlying9]
    rfl
  · injection hv with h1 h2 h3
    have hc := h.1.cells (g := g) (by rw [h1]; rfl)
    subst h1
    exact run_convert_bytes_back wr _ _ _ ⟨g, 0, none⟩ cap l Tryd.underlying84 Tryd.underlying5 Tryd.underlying9 (fun j hj => hc j _ (by simp [Lib.byteCells, hj]))

set_option maxHeartbeats 4000000 in
set_option maxRecDepth 100000 in
theorem refPlain_any (s : ByteArray) (w : World) :
    Calls Tryd.prog 146 #[.string s] w fun e w' => e = .returned (plainW (plainV s)) ∧ Below w.heap.size w w' := by
  obtain ⟨i0, hi, hz0, hz1, hz2⟩ := info_parts byte_info
  obtain ⟨V, hV⟩ : ∃ V, V = plainV s := ⟨_, rfl⟩
  rw [← hV]
  unfold plainV at hV
  by_cases c0 : 65536 < s.size
  · rw [if_pos c0] at hV
    have hV' := Lib.hid hV
    have d0 : 65536 < (s.size : Int) := by omega
    clear hV c0
    go_enter Tryd.func146, Tryd.ntmps146
    go_wp2
    go_ret3
    exact ⟨by rw [hV'.out]; rfl, Below.refl _ _⟩
  · rw [if_neg c0] at hV
    have d0 : ¬ 65536 < (s.size : Int) := by omega
    obtain ⟨R, hR⟩ : ∃ R, R = plainR s := ⟨_, rfl⟩
    have hS := Lib.hid (PAt.start s)
    rw [← hR] at hV hS
    have hV' := Lib.hid hV
    clear hV hR
    go_enter Tryd.func146, Tryd.ntmps146
    go_wp2_with fail
    go_loopw [5, 6] (fun o i wr => ∃ (k : Nat) (acc : List UInt8) (ao : Option Addr) (cap : Nat), i = .int .i64 k ∧ o = .slice ao acc.length cap ∧ Hid (PAt s R k acc) ∧ Hid (Sw w acc ao cap wr)) (fun _ i _ => ((s.size : Int) - intOf i).toNat)
    case atStart => exact ⟨0, [], none, 0, rfl, rfl, hS, Lib.hid (sw_new w)⟩
    case round =>
      obtain ⟨k, acc, ao, cap, rfl, rfl, H, HB⟩ := hrel
      have hk := H.out.1
      have hal := Lib.hid H.out.2.1
      by_cases c : (k : Int) < s.size
      · obtain ⟨u, hu⟩ : ∃ u, u = s[k]'(by omega) := ⟨_, rfl⟩
        have hu' := hu.symm
        have hlt := u.toNat_lt
        clear hu
        by_cases c1 : u.toNat = 92
        · have d1 : ((u.toNat : Int) == 92) = true := by simp; omega
          by_cases c2 : k + 1 = s.size
          · have hRk := Lib.hid (H.out.bad (by omega) u hu' c1 (by rw [List.drop_of_length_le (by rw [size_list]; omega)]; rfl))
            have d2 : (((k : Int) + 1) == (s.size : Int)) = true := by simp; omega
            clear c1 c2
            go_wp2_with fail
            go_ret3
            exact ⟨by rw [hV'.out, hRk.out]; rfl, HB.out.2⟩
          · have d2 : (((k : Int) + 1) == (s.size : Int)) = false := by simp; omega
            have d2' : (k : Int) + 1 < s.size := by omega
            obtain ⟨r, hr⟩ : ∃ r, r = s.data.toList.drop (k + 1 + 1) := ⟨_, rfl⟩
            have hd := drop_cons s (k + 1) (by omega)
            obtain ⟨c, hc⟩ : ∃ c, c = s[k + 1]'(by omega) := ⟨_, rfl⟩
            rw [← hc, ← hr] at hd
            have hc' := hc.symm
            have hclt := c.toNat_lt
            clear hc
            by_cases b110 : c.toNat = 110
            · have e110 : ((c.toNat : Int) == 110) = true := by simp; omega
              have hH2 := Lib.hid (H.out.esc (c := 10) (j := 1) (by omega) u hu' c1 (by rw [hd]; rw [show c = 110 from by rw [← UInt8.ofNat_toNat (x := c), b110]; rfl]; rfl) (by decide))
              clear c1 c2 hd hr
              go_wp2_with (at_builtin; refine wpList_append_own _ rfl _ _ 84 rfl w.heap.size 5 i0 (.int .u8 0) 1 1 Tryd.underlying84 hi hz0 hz1 hz2 rfl (by decide) _ _ _ rfl (HB.out.1.alloc _) ⟨wr.heap.size, 0, none⟩ 1 1 [.int .u8 10] rfl rfl ?c1 ?c2 ?c3 ?c4 ?c5 ?_)
              case c1 => exact one_new wr _ _
              case c2 => intro u hu; simp at hu; subst hu; rfl
              case c3 => unfold maxLen; have := hal.out; omega
              case c4 => have := hal.out; omega
              case c5 => have := HB.out.2.size; simp; omega
              intro v' w2 hown' hgrow _
              have HN := Lib.hid (sw_app (u := 10) HB.out hown' hgrow)
              clear hown' hgrow
              obtain ⟨ao2, cap2, rfl, HN2⟩ := HN.out
              clear HN
              have HN3 := Lib.hid HN2
              clear HN2
              go_wp2_with fail
              refine ⟨⟨k + 1 + 1, _, ao2, cap2, by simp; omega, rfl, hH2, HN3⟩, by simp [intOf]; omega⟩
            · have e110 : ((c.toNat : Int) == 110) = false := by simp; omega
              by_cases b116 : c.toNat = 116
              · have e116 : ((c.toNat : Int) == 116) = true := by simp; omega
                have hH2 := Lib.hid (H.out.esc (c := 9) (j := 1) (by omega) u hu' c1 (by rw [hd]; rw [show c = 116 from by rw [← UInt8.ofNat_toNat (x := c), b116]; rfl]; rfl) (by decide))
                clear c1 c2 hd hr
                go_wp2_with (at_builtin; refine wpList_append_own _ rfl _ _ 84 rfl w.heap.size 5 i0 (.int .u8 0) 1 1 Tryd.underlying84 hi hz0 hz1 hz2 rfl (by decide) _ _ _ rfl (HB.out.1.alloc _) ⟨wr.heap.size, 0, none⟩ 1 1 [.int .u8 9] rfl rfl ?c1 ?c2 ?c3 ?c4 ?c5 ?_)
                case c1 => exact one_new wr _ _
                case c2 => intro u hu; simp at hu; subst hu; rfl
                case c3 => unfold maxLen; have := hal.out; omega
                case c4 => have := hal.out; omega
                case c5 => have := HB.out.2.size; simp; omega
                intro v' w2 hown' hgrow _
                have HN := Lib.hid (sw_app (u := 9) HB.out hown' hgrow)
                clear hown' hgrow
                obtain ⟨ao2, cap2, rfl, HN2⟩ := HN.out
                clear HN
                have HN3 := Lib.hid HN2
                clear HN2
                go_wp2_with fail
                refine ⟨⟨k + 1 + 1, _, ao2, cap2, by simp; omega, rfl, hH2, HN3⟩, by simp [intOf]; omega⟩
              · have e116 : ((c.toNat : Int) == 116) = false := by simp; omega
                by_cases b114 : c.toNat = 114
                · have e114 : ((c.toNat : Int) == 114) = true := by simp; omega
                  have hH2 := Lib.hid (H.out.esc (c := 13) (j := 1) (by omega) u hu' c1 (by rw [hd]; rw [show c = 114 from by rw [← UInt8.ofNat_toNat (x := c), b114]; rfl]; rfl) (by decide))
                  clear c1 c2 hd hr
                  go_wp2_with (at_builtin; refine wpList_append_own _ rfl _ _ 84 rfl w.heap.size 5 i0 (.int .u8 0) 1 1 Tryd.underlying84 hi hz0 hz1 hz2 rfl (by decide) _ _ _ rfl (HB.out.1.alloc _) ⟨wr.heap.size, 0, none⟩ 1 1 [.int .u8 13] rfl rfl ?c1 ?c2 ?c3 ?c4 ?c5 ?_)
                  case c1 => exact one_new wr _ _
                  case c2 => intro u hu; simp at hu; subst hu; rfl
                  case c3 => unfold maxLen; have := hal.out; omega
                  case c4 => have := hal.out; omega
                  case c5 => have := HB.out.2.size; simp; omega
                  intro v' w2 hown' hgrow _
                  have HN := Lib.hid (sw_app (u := 13) HB.out hown' hgrow)
                  clear hown' hgrow
                  obtain ⟨ao2, cap2, rfl, HN2⟩ := HN.out
                  clear HN
                  have HN3 := Lib.hid HN2
                  clear HN2
                  go_wp2_with fail
                  refine ⟨⟨k + 1 + 1, _, ao2, cap2, by simp; omega, rfl, hH2, HN3⟩, by simp [intOf]; omega⟩
                · have e114 : ((c.toNat : Int) == 114) = false := by simp; omega
                  by_cases b92 : c.toNat = 92
                  · have e92 : ((c.toNat : Int) == 92) = true := by simp; omega
                    have hH2 := Lib.hid (H.out.esc (c := 92) (j := 1) (by omega) u hu' c1 (by rw [hd]; rw [show c = 92 from by rw [← UInt8.ofNat_toNat (x := c), b92]; rfl]; rfl) (by decide))
                    clear c1 c2 hd hr
                    go_wp2_with (at_builtin; refine wpList_append_own _ rfl _ _ 84 rfl w.heap.size 5 i0 (.int .u8 0) 1 1 Tryd.underlying84 hi hz0 hz1 hz2 rfl (by decide) _ _ _ rfl (HB.out.1.alloc _) ⟨wr.heap.size, 0, none⟩ 1 1 [.int .u8 92] rfl rfl ?c1 ?c2 ?c3 ?c4 ?c5 ?_)
                    case c1 => exact one_new wr _ _
                    case c2 => intro u hu; simp at hu; subst hu; rfl
                    case c3 => unfold maxLen; have := hal.out; omega
                    case c4 => have := hal.out; omega
                    case c5 => have := HB.out.2.size; simp; omega
                    intro v' w2 hown' hgrow _
                    have HN := Lib.hid (sw_app (u := 92) HB.out hown' hgrow)
                    clear hown' hgrow
                    obtain ⟨ao2, cap2, rfl, HN2⟩ := HN.out
                    clear HN
                    have HN3 := Lib.hid HN2
                    clear HN2
                    go_wp2_with fail
                    refine ⟨⟨k + 1 + 1, _, ao2, cap2, by simp; omega, rfl, hH2, HN3⟩, by simp [intOf]; omega⟩
                  · have e92 : ((c.toNat : Int) == 92) = false := by simp; omega
                    by_cases b34 : c.toNat = 34
                    · have e34 : ((c.toNat : Int) == 34) = true := by simp; omega
                      have hH2 := Lib.hid (H.out.esc (c := 34) (j := 1) (by omega) u hu' c1 (by rw [hd]; rw [show c = 34 from by rw [← UInt8.ofNat_toNat (x := c), b34]; rfl]; rfl) (by decide))
                      clear c1 c2 hd hr
                      go_wp2_with (at_builtin; refine wpList_append_own _ rfl _ _ 84 rfl w.heap.size 5 i0 (.int .u8 0) 1 1 Tryd.underlying84 hi hz0 hz1 hz2 rfl (by decide) _ _ _ rfl (HB.out.1.alloc _) ⟨wr.heap.size, 0, none⟩ 1 1 [.int .u8 34] rfl rfl ?c1 ?c2 ?c3 ?c4 ?c5 ?_)
                      case c1 => exact one_new wr _ _
                      case c2 => intro u hu; simp at hu; subst hu; rfl
                      case c3 => unfold maxLen; have := hal.out; omega
                      case c4 => have := hal.out; omega
                      case c5 => have := HB.out.2.size; simp; omega
                      intro v' w2 hown' hgrow _
                      have HN := Lib.hid (sw_app (u := 34) HB.out hown' hgrow)
                      clear hown' hgrow
                      obtain ⟨ao2, cap2, rfl, HN2⟩ := HN.out
                      clear HN
                      have HN3 := Lib.hid HN2
                      clear HN2
                      go_wp2_with fail
                      refine ⟨⟨k + 1 + 1, _, ao2, cap2, by simp; omega, rfl, hH2, HN3⟩, by simp [intOf]; omega⟩
                    · have e34 : ((c.toNat : Int) == 34) = false := by simp; omega
                      by_cases b39 : c.toNat = 39
                      · have e39 : ((c.toNat : Int) == 39) = true := by simp; omega
                        have hH2 := Lib.hid (H.out.esc (c := 39) (j := 1) (by omega) u hu' c1 (by rw [hd]; rw [show c = 39 from by rw [← UInt8.ofNat_toNat (x := c), b39]; rfl]; rfl) (by decide))
                        clear c1 c2 hd hr
                        go_wp2_with (at_builtin; refine wpList_append_own _ rfl _ _ 84 rfl w.heap.size 5 i0 (.int .u8 0) 1 1 Tryd.underlying84 hi hz0 hz1 hz2 rfl (by decide) _ _ _ rfl (HB.out.1.alloc _) ⟨wr.heap.size, 0, none⟩ 1 1 [.int .u8 39] rfl rfl ?c1 ?c2 ?c3 ?c4 ?c5 ?_)
                        case c1 => exact one_new wr _ _
                        case c2 => intro u hu; simp at hu; subst hu; rfl
                        case c3 => unfold maxLen; have := hal.out; omega
                        case c4 => have := hal.out; omega
                        case c5 => have := HB.out.2.size; simp; omega
                        intro v' w2 hown' hgrow _
                        have HN := Lib.hid (sw_app (u := 39) HB.out hown' hgrow)
                        clear hown' hgrow
                        obtain ⟨ao2, cap2, rfl, HN2⟩ := HN.out
                        clear HN
                        have HN3 := Lib.hid HN2
                        clear HN2
                        go_wp2_with fail
                        refine ⟨⟨k + 1 + 1, _, ao2, cap2, by simp; omega, rfl, hH2, HN3⟩, by simp [intOf]; omega⟩
                      · have e39 : ((c.toNat : Int) == 39) = false := by simp; omega
                        have hE : Sp.escL (c :: r) = if c.toNat = 120 then Sp.escX r else (0, 0) := by rw [Sp.escL, if_neg (by omega), if_neg b110, if_neg b116, if_neg b114]
                        clear b110 b116 b114 b92 b34 b39
                        by_cases b120 : c.toNat = 120
                        · have e120 : ((c.toNat : Int) == 120) = true := by simp; omega
                          rw [if_pos b120] at hE
                          have hlen : r.length = s.size - (k + 1 + 1) := by rw [hr, List.length_drop, size_list]
                          by_cases c3 : s.size ≤ k + 3
                          · have d3 : (s.size : Int) ≤ (k : Int) + 3 := by omega
                            have hx : Sp.escX r = (0, 0) := by
                              match r, hlen with
                              | [], _ => rfl
                              | [_], _ => rfl
                              | _ :: _ :: _, hlen => simp at hlen; omega
                            have hRk := Lib.hid (H.out.bad (by omega) u hu' c1 (by rw [hd, hE, hx]))
                            clear c1 c2 hd hr hE b120 hx c3 hlen
                            go_wp2_with fail
                            go_ret3
                            exact ⟨by rw [hV'.out, hRk.out]; rfl, HB.out.2⟩
                          · have d3 : ¬ (s.size : Int) ≤ (k : Int) + 3 := by omega
                            obtain ⟨x, hx⟩ : ∃ x, x = s[k + 2]'(by omega) := ⟨_, rfl⟩
                            obtain ⟨y, hy⟩ : ∃ y, y = s[k + 3]'(by omega) := ⟨_, rfl⟩
                            have hxy : r = x :: y :: s.data.toList.drop (k + 1 + 1 + 1 + 1) := by
                              rw [hr, drop_cons s (k + 1 + 1) (by omega), drop_cons s (k + 1 + 1 + 1) (by omega), hx, hy]
                            have hx' := hx.symm
                            have hy' := hy.symm
                            rw [hxy, Sp.escX] at hE
                            clear hx hy
                            have dk2 : (k : Int) + 2 < s.size := by omega
                            have dk3 : (k : Int) + 3 < s.size := by omega
                            cases ha : Sp.hexv x with
                            | none =>
                              have hRk := Lib.hid (H.out.bad (by omega) u hu' c1 (by rw [hd, hxy, hE, ha]))
                              have q1 := Lib.hid (fun w => sixteen_none x w ha)
                              clear c1 c2 hd hr hE b120 hlen ha hxy
                              go_wp2_with fail
                              refine (q1.out _).mono ?_
                              rintro e w2 ⟨rfl, rfl⟩
                              go_wp2_with fail
                              go_ret3
                              exact ⟨by rw [hV'.out, hRk.out]; rfl, HB.out.2⟩
                            | some a =>
                              have q1 := Lib.hid (fun w => sixteen_some x a w ha)
                              have ha0 : ¬ (a : Int) < 0 := by omega
                              cases hb : Sp.hexv y with
                              | none =>
                                have hRk := Lib.hid (H.out.bad (by omega) u hu' c1 (by rw [hd, hxy, hE, ha, hb]))
                                have q2 := Lib.hid (fun w => sixteen_none y w hb)
                                clear c1 c2 hd hr hE b120 hlen ha hb hxy
                                go_wp2_with fail
                                refine (q1.out _).mono ?_
                                rintro e w2 ⟨rfl, rfl⟩
                                go_wp2_with fail
                                refine (q2.out _).mono ?_
                                rintro e w2 ⟨rfl, rfl⟩
                                go_wp2_with fail
                                go_ret3
                                exact ⟨by rw [hV'.out, hRk.out]; rfl, HB.out.2⟩
                              | some b =>
                                have q2 := Lib.hid (fun w => sixteen_some y b w hb)
                                have sx := sixV_some ha
                                have sy := sixV_some hb
                                have hb0 : ¬ (b : Int) < 0 := by omega
                                have ha16 := hexv_lt x a ha
                                have hb16 := hexv_lt y b hb
                                have hH2 := Lib.hid (H.out.esc (c := UInt8.ofNat (16 * a + b)) (j := 3) (by omega) u hu' c1 (by rw [hd, hxy, hE, ha, hb]) (by decide))
                                clear c1 c2 hd hr hE b120 hlen ha hb hxy
                                go_wp2_with fail
                                refine (q1.out _).mono ?_
                                rintro e w2 ⟨rfl, rfl⟩
                                go_wp2_with fail
                                refine (q2.out _).mono ?_
                                rintro e w2 ⟨rfl, rfl⟩
                                go_wp2_with fail
                                have w1 : IntKind.i64.wrap ((k : Int) + 2) = (k : Int) + 2 := IntWalk.i64_in _ ⟨by omega, by omega⟩
                                have w2 : IntKind.i64.wrap ((k : Int) + 3) = (k : Int) + 3 := IntWalk.i64_in _ ⟨by omega, by omega⟩
                                have w3 : (0 : Int) ≤ (k : Int) + 2 := by omega
                                have w4 : (0 : Int) ≤ (k : Int) + 3 := by omega
                                have w5 : ((k : Int) + 2).toNat = k + 2 := by omega
                                have w6 : ((k : Int) + 3).toNat = k + 3 := by omega
                                go_quiet ((go_at_call 168; exact Calls.quiet_of_same (sixV_any _ _)))
                                clear w1 w2 w3 w4 w5 w6
                                have HB2 : Hid (Sw w acc ao cap (wr.drewN nq)) := ⟨HB.out.1, below_drewN HB.out.2 nq⟩
                                clear HB
                                generalize wr.drewN nq = wq at HB2 ⊢
                                have HB := HB2
                                clear HB2
                                have he0 : (16 * (a : Int) + b) = ((UInt8.ofNat (16 * a + b)).toNat : Int) := by
                                  rw [UInt8.toNat_ofNat_of_lt' (by show _ < 256; omega)]; omega
                                generalize UInt8.ofNat (16 * a + b) = e0 at hH2 he0
                                rw [he0]
                                clear he0
                                go_wp2_with (at_builtin; refine wpList_append_own _ rfl _ _ 84 rfl w.heap.size 5 i0 (.int .u8 0) 1 1 Tryd.underlying84 hi hz0 hz1 hz2 rfl (by decide) _ _ _ rfl (HB.out.1.alloc _) ⟨wq.heap.size, 0, none⟩ 1 1 [.int .u8 e0.toNat] rfl rfl ?c1 ?c2 ?c3 ?c4 ?c5 ?_)
                                case c1 => exact one_new wq _ _
                                case c2 => intro u hu; simp at hu; subst hu; rfl
                                case c3 => unfold maxLen; have := hal.out; omega
                                case c4 => have := hal.out; omega
                                case c5 => have := HB.out.2.size; simp; omega
                                intro v' w2 hown' hgrow _
                                have HN := Lib.hid (sw_app (u := e0) HB.out hown' hgrow)
                                clear hown' hgrow
                                obtain ⟨ao2, cap2, rfl, HN2⟩ := HN.out
                                clear HN
                                have HN3 := Lib.hid HN2
                                clear HN2
                                go_wp2_with fail
                                refine ⟨⟨k + 3 + 1, _, ao2, cap2, by simp; omega, rfl, hH2, HN3⟩, by simp [intOf]; omega⟩
                        · have e120 : ((c.toNat : Int) == 120) = false := by simp; omega
                          rw [if_neg b120] at hE
                          have hRk := Lib.hid (H.out.bad (by omega) u hu' c1 (by rw [hd, hE]))
                          clear c1 c2 hd hr hE b120
                          go_wp2_with fail
                          go_ret3
                          exact ⟨by rw [hV'.out, hRk.out]; rfl, HB.out.2⟩
        · have d1 : ((u.toNat : Int) == 92) = false := by simp; omega
          have hH2 := Lib.hid (H.out.plain (by omega) u hu' c1)
          clear c1
          go_wp2_with (at_builtin; refine wpList_append_own _ rfl _ _ 84 rfl w.heap.size 5 i0 (.int .u8 0) 1 1 Tryd.underlying84 hi hz0 hz1 hz2 rfl (by decide) _ _ _ rfl (HB.out.1.alloc _) ⟨wr.heap.size, 0, none⟩ 1 1 [.int .u8 u.toNat] rfl rfl ?c1 ?c2 ?c3 ?c4 ?c5 ?_)
          case c1 => exact one_new wr _ _
          case c2 => intro u hu; simp at hu; subst hu; rfl
          case c3 => unfold maxLen; have := hal.out; omega
          case c4 => have := hal.out; omega
          case c5 => have := HB.out.2.size; simp; omega
          intro v' w2 hown' hgrow _
          have HN := Lib.hid (sw_app (u := u) HB.out hown' hgrow)
          clear hown' hgrow
          obtain ⟨ao2, cap2, rfl, HN2⟩ := HN.out
          clear HN
          have HN3 := Lib.hid HN2
          clear HN2
          go_wp2_with fail
          refine ⟨⟨k + 1, acc ++ [u], ao2, cap2, by simp, rfl, hH2, HN3⟩, by simp [intOf]; omega⟩
      · have hRe := Lib.hid (H.out.stop (by omega))
        rw [hRe.out] at hV'
        have hcv := sw_conv HB.out
        by_cases c2 : 4096 < acc.length
        · have d2 : 4096 < (acc.length : Int) := by omega
          go_wp2_with fail
          go_ret3
          exact ⟨by rw [hV'.out, if_pos c2]; rfl, HB.out.2⟩
        · have d2 : ¬ 4096 < (acc.length : Int) := by omega
          go_wp2_with fail
          go_ret3
          exact ⟨by rw [hV'.out, if_neg c2]; rfl, HB.out.2⟩
end Go.Proofs.YtajmdpndbfmdmaaDoor
