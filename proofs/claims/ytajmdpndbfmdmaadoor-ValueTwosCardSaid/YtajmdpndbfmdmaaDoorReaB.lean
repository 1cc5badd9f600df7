/-
  The walk of num.Read. Conditions: texts of at most 70,000 bytes.
-/
import Derived.Test.YtajmdpndbfmdmaaDoorReaA
import Derived.Test.YtajmdpndbfmdmaaDoorPlaE
namespace Go.Proofs.YtajmdpndbfmdmaaDoor
open Go Go.RowKit

set_option maxHeartbeats 4000000 in
set_option maxRecDepth 100000 in
theorem read_any (s : ByteArray) (w : World) (hs : s.size ≤ 70000) :
    Calls Tryd.prog 39 #[.string s] w (OpPost (readL (trimV s).data.toList) w) := by
  have h := Any.strings_Trim_laid Tryd.lays160 (by kernel_rfl) s ⟨#[9, 10, 13, 32]⟩ w (by omega) (by decide) (Go.Proofs.ascii_of_all (by decide))
  have q : Hid (Calls Tryd.prog 87 #[.string s, .string ⟨#[9, 10, 13, 32]⟩] w fun e w' => e = .returned (.string (trimV s)) ∧ Below w.heap.size w w') := h
  clear h
  have hle := trimV_le s
  have qN := Lib.hid (fun w' => nan_any w')
  generalize trimV s = V at q hle ⊢
  obtain ⟨R, hR0⟩ : ∃ R, R = readL V.data.toList := ⟨_, rfl⟩
  rw [← hR0]
  by_cases c0 : V.size = 0
  · obtain rfl := empty_of c0
    have hR := Lib.hid hR0
    clear hR0 c0
    go_enter Tryd.func39, Tryd.ntmps39
    go_wp2_with fail
    refine q.out.mono ?_; rintro e w1 ⟨rfl, b1⟩
    have B1 := Lib.hid b1
    clear b1
    go_wp2_with fail
    go_ret2
    exact ⟨_, by rw [hR.out]; rfl, by rw [hR.out]; exact fits_z, B1.out⟩
  · have he := isEmpty_of c0
    have hp : 0 < V.size := by omega
    have hp' : 0 < (V.size : Int) := by omega
    obtain ⟨c, hc⟩ : ∃ c, V[0]'hp = c := ⟨_, rfl⟩
    have hcl := drop_cons V 0 hp
    rw [hc] at hcl
    have hlist : V.data.toList = c :: V.data.toList.drop 1 := hcl
    have hclt := c.toNat_lt
    rw [hlist, readL] at hR0
    have hx : (V.extract 1 V.size).data.toList = V.data.toList.drop 1 := drop_ext V 1
    have hxs : (V.extract 1 V.size).size = V.size - 1 := by rw [← size_list, hx, List.length_drop, size_list]
    by_cases c45 : c.toNat = 45
    · have d1 : ((c.toNat : Int) == 45) = true := by simp; omega
      rw [if_pos c45, ← hx] at hR0
      obtain ⟨D, hD⟩ : ∃ D, V.extract 1 V.size = D := ⟨_, rfl⟩
      rw [hD] at hR0 hxs
      have hL := Lib.hid hR0
      clear hR0 hx hcl hlist c45
      by_cases cd : D.size = 0
      · obtain rfl := empty_of cd
        have hR : Hid (R = (none, 0)) := hL.out
        clear hL cd hxs
        go_enter Tryd.func39, Tryd.ntmps39
        go_wp2_with fail
        refine q.out.mono ?_; rintro e w1 ⟨rfl, b1⟩
        have B1 := Lib.hid b1
        clear b1
        go_wp2_with fail
        refine (qN.out _).mono ?_; rintro e w' ⟨rfl, rfl⟩
        go_wp2_with fail
        go_ret2
        exact ⟨_, by rw [hR.out]; rfl, by rw [hR.out]; exact fits_nan, B1.out⟩
      · have hde := isEmpty_of cd
        have hdl : D.size ≤ 70000 := by omega
        clear hxs
        go_enter Tryd.func39, Tryd.ntmps39
        go_wp2_with fail
        refine q.out.mono ?_; rintro e w1 ⟨rfl, b1⟩
        have B1 := Lib.hid b1
        clear b1
        go_wp2_with fail
        go_loop [5, 6, 30] (fun v g i => ∃ (k : Nat) (a : Int) (b : Bool), k ≤ D.size ∧ i = .int .i64 k ∧ v = .int .i64 a ∧ g = .bool b ∧ Hid (RAt D.data.toList k a b)) (fun _ _ i => ((D.size : Int) - intOf i).toNat)
        case atStart => exact ⟨0, 0, false, by omega, rfl, rfl, rfl, RAt.start _⟩
        case round =>
          obtain ⟨k, a, b, hk, rfl, rfl, rfl, H⟩ := hrel
          obtain ⟨ha0, ha1⟩ := H.out.bound
          by_cases ck : (k : Int) < D.size
          · obtain ⟨u, hu⟩ : ∃ u, D[k]'(by omega) = u := ⟨_, rfl⟩
            have hult := u.toNat_lt
            by_cases hd : 48 ≤ u.toNat ∧ u.toNat ≤ 57
            · have e1 : ¬ (u.toNat : Int) < 48 := by omega
              have e2 : ¬ 57 < (u.toNat : Int) := by omega
              obtain ⟨s1, s2⟩ := H.out.step (by omega) u hu hd.1 hd.2
              by_cases hb : 9007199254740991 < a * 10 + ((u.toNat : Int) - 48)
              · have s1' := Lib.hid (s1 hb)
                clear s1 s2 hd
                go_wp2_with fail
                go_round
                case rel => exact ⟨k + 1, 9007199254740991, true, by omega, by go_num, rfl, rfl, s1'⟩
                case measure => simp [intOf]; omega
              · have s2' := Lib.hid (s2 hb)
                clear s1 s2 hd
                go_wp2_with fail
                go_round
                case rel => exact ⟨k + 1, _, b, by omega, by go_num, rfl, rfl, s2'⟩
                case measure => simp [intOf]; omega
            · have hR := Lib.hid (hL.out.trans (not_dig (by omega) u hu hd true))
              by_cases e1 : (u.toNat : Int) < 48
              · clear hd
                go_wp2_with fail
                refine (qN.out _).mono ?_; rintro e w' ⟨rfl, rfl⟩
                go_wp2_with fail
                go_ret2
                exact ⟨_, by rw [hR.out]; rfl, by rw [hR.out]; exact fits_nan, B1.out⟩
              · have e2 : 57 < (u.toNat : Int) := by omega
                clear hd
                go_wp2_with fail
                refine (qN.out _).mono ?_; rintro e w' ⟨rfl, rfl⟩
                go_wp2_with fail
                go_ret2
                exact ⟨_, by rw [hR.out]; rfl, by rw [hR.out]; exact fits_nan, B1.out⟩
          · rcases H.out.fin (by omega) (by omega) true with ⟨rfl, hf⟩ | ⟨rfl, hn, rfl, hf⟩ | ⟨rfl, hn, hf⟩
            · have hR := Lib.hid (hL.out.trans hf)
              clear hf
              go_wp2_with fail
              go_ret2
              exact ⟨_, by rw [hR.out]; rfl, by rw [hR.out]; exact fits_z, B1.out⟩
            · have hR := Lib.hid (hL.out.trans hf)
              clear hf
              go_wp2_with fail
              go_ret2
              exact ⟨_, by rw [hR.out]; rfl, by rw [hR.out]; exact fits_z, B1.out⟩
            · have hR := Lib.hid (hL.out.trans hf)
              clear hf
              have hW := Fl.floatOfInt_W (-a)
              have hn' := hn rfl
              go_wp2_with fail
              go_ret2
              exact ⟨_, by rw [hR.out]; rfl, by rw [hR.out]; exact fits_W (by first | omega | (simp; omega)), B1.out⟩
    · have d1 : ((c.toNat : Int) == 45) = false := by simp; omega
      rw [if_neg c45] at hR0
      by_cases c43 : c.toNat = 43
      · have d2 : ((c.toNat : Int) == 43) = true := by simp; omega
        rw [if_pos c43, ← hx] at hR0
        obtain ⟨D, hD⟩ : ∃ D, V.extract 1 V.size = D := ⟨_, rfl⟩
        rw [hD] at hR0 hxs
        have hL := Lib.hid hR0
        clear hR0 hx hcl hlist c45 c43
        by_cases cd : D.size = 0
        · obtain rfl := empty_of cd
          have hR : Hid (R = (none, 0)) := hL.out
          clear hL cd hxs
          go_enter Tryd.func39, Tryd.ntmps39
          go_wp2_with fail
          refine q.out.mono ?_; rintro e w1 ⟨rfl, b1⟩
          have B1 := Lib.hid b1
          clear b1
          go_wp2_with fail
          refine (qN.out _).mono ?_; rintro e w' ⟨rfl, rfl⟩
          go_wp2_with fail
          go_ret2
          exact ⟨_, by rw [hR.out]; rfl, by rw [hR.out]; exact fits_nan, B1.out⟩
        · have hde := isEmpty_of cd
          have hdl : D.size ≤ 70000 := by omega
          clear hxs
          go_enter Tryd.func39, Tryd.ntmps39
          go_wp2_with fail
          refine q.out.mono ?_; rintro e w1 ⟨rfl, b1⟩
          have B1 := Lib.hid b1
          clear b1
          go_wp2_with fail
          go_loop [5, 6, 30] (fun v g i => ∃ (k : Nat) (a : Int) (b : Bool), k ≤ D.size ∧ i = .int .i64 k ∧ v = .int .i64 a ∧ g = .bool b ∧ Hid (RAt D.data.toList k a b)) (fun _ _ i => ((D.size : Int) - intOf i).toNat)
          case atStart => exact ⟨0, 0, false, by omega, rfl, rfl, rfl, RAt.start _⟩
          case round =>
            obtain ⟨k, a, b, hk, rfl, rfl, rfl, H⟩ := hrel
            obtain ⟨ha0, ha1⟩ := H.out.bound
            by_cases ck : (k : Int) < D.size
            · obtain ⟨u, hu⟩ : ∃ u, D[k]'(by omega) = u := ⟨_, rfl⟩
              have hult := u.toNat_lt
              by_cases hd : 48 ≤ u.toNat ∧ u.toNat ≤ 57
              · have e1 : ¬ (u.toNat : Int) < 48 := by omega
                have e2 : ¬ 57 < (u.toNat : Int) := by omega
                obtain ⟨s1, s2⟩ := H.out.step (by omega) u hu hd.1 hd.2
                by_cases hb : 9007199254740991 < a * 10 + ((u.toNat : Int) - 48)
                · have s1' := Lib.hid (s1 hb)
                  clear s1 s2 hd
                  go_wp2_with fail
                  go_round
                  case rel => exact ⟨k + 1, 9007199254740991, true, by omega, by go_num, rfl, rfl, s1'⟩
                  case measure => simp [intOf]; omega
                · have s2' := Lib.hid (s2 hb)
                  clear s1 s2 hd
                  go_wp2_with fail
                  go_round
                  case rel => exact ⟨k + 1, _, b, by omega, by go_num, rfl, rfl, s2'⟩
                  case measure => simp [intOf]; omega
              · have hR := Lib.hid (hL.out.trans (not_dig (by omega) u hu hd false))
                by_cases e1 : (u.toNat : Int) < 48
                · clear hd
                  go_wp2_with fail
                  refine (qN.out _).mono ?_; rintro e w' ⟨rfl, rfl⟩
                  go_wp2_with fail
                  go_ret2
                  exact ⟨_, by rw [hR.out]; rfl, by rw [hR.out]; exact fits_nan, B1.out⟩
                · have e2 : 57 < (u.toNat : Int) := by omega
                  clear hd
                  go_wp2_with fail
                  refine (qN.out _).mono ?_; rintro e w' ⟨rfl, rfl⟩
                  go_wp2_with fail
                  go_ret2
                  exact ⟨_, by rw [hR.out]; rfl, by rw [hR.out]; exact fits_nan, B1.out⟩
            · rcases H.out.fin (by omega) (by omega) false with ⟨rfl, hf⟩ | ⟨rfl, hn, rfl, hf⟩ | ⟨rfl, hn, hf⟩
              · have hR := Lib.hid (hL.out.trans hf)
                clear hf
                go_wp2_with fail
                go_ret2
                exact ⟨_, by rw [hR.out]; rfl, by rw [hR.out]; exact fits_z, B1.out⟩
              · cases hn
              · have hR := Lib.hid (hL.out.trans hf)
                clear hf
                have hW := Fl.floatOfInt_W a
                clear hn
                go_wp2_with fail
                go_ret2
                exact ⟨_, by rw [hR.out]; rfl, by rw [hR.out]; exact fits_W (by first | omega | (simp; omega)), B1.out⟩
      · have d2 : ((c.toNat : Int) == 43) = false := by simp; omega
        rw [if_neg c43, ← hlist] at hR0
        have hL := Lib.hid hR0
        clear hR0 hx hcl hlist c45 c43 hxs
        go_enter Tryd.func39, Tryd.ntmps39
        go_wp2_with fail
        refine q.out.mono ?_; rintro e w1 ⟨rfl, b1⟩
        have B1 := Lib.hid b1
        clear b1
        go_wp2_with fail
        go_loop [5, 6, 30] (fun v g i => ∃ (k : Nat) (a : Int) (b : Bool), k ≤ V.size ∧ i = .int .i64 k ∧ v = .int .i64 a ∧ g = .bool b ∧ Hid (RAt V.data.toList k a b)) (fun _ _ i => ((V.size : Int) - intOf i).toNat)
        case atStart => exact ⟨0, 0, false, by omega, rfl, rfl, rfl, RAt.start _⟩
        case round =>
          obtain ⟨k, a, b, hk, rfl, rfl, rfl, H⟩ := hrel
          obtain ⟨ha0, ha1⟩ := H.out.bound
          by_cases ck : (k : Int) < V.size
          · obtain ⟨u, hu⟩ : ∃ u, V[k]'(by omega) = u := ⟨_, rfl⟩
            have hult := u.toNat_lt
            by_cases hd : 48 ≤ u.toNat ∧ u.toNat ≤ 57
            · have e1 : ¬ (u.toNat : Int) < 48 := by omega
              have e2 : ¬ 57 < (u.toNat : Int) := by omega
              obtain ⟨s1, s2⟩ := H.out.step (by omega) u hu hd.1 hd.2
              by_cases hb : 9007199254740991 < a * 10 + ((u.toNat : Int) - 48)
              · have s1' := Lib.hid (s1 hb)
                clear s1 s2 hd
                go_wp2_with fail
                go_round
                case rel => exact ⟨k + 1, 9007199254740991, true, by omega, by go_num, rfl, rfl, s1'⟩
                case measure => simp [intOf]; omega
              · have s2' := Lib.hid (s2 hb)
                clear s1 s2 hd
                go_wp2_with fail
                go_round
                case rel => exact ⟨k + 1, _, b, by omega, by go_num, rfl, rfl, s2'⟩
                case measure => simp [intOf]; omega
            · have hR := Lib.hid (hL.out.trans (not_dig (by omega) u hu hd false))
              by_cases e1 : (u.toNat : Int) < 48
              · clear hd
                go_wp2_with fail
                refine (qN.out _).mono ?_; rintro e w' ⟨rfl, rfl⟩
                go_wp2_with fail
                go_ret2
                exact ⟨_, by rw [hR.out]; rfl, by rw [hR.out]; exact fits_nan, B1.out⟩
              · have e2 : 57 < (u.toNat : Int) := by omega
                clear hd
                go_wp2_with fail
                refine (qN.out _).mono ?_; rintro e w' ⟨rfl, rfl⟩
                go_wp2_with fail
                go_ret2
                exact ⟨_, by rw [hR.out]; rfl, by rw [hR.out]; exact fits_nan, B1.out⟩
          · rcases H.out.fin (by omega) (by omega) false with ⟨rfl, hf⟩ | ⟨rfl, hn, rfl, hf⟩ | ⟨rfl, hn, hf⟩
            · have hR := Lib.hid (hL.out.trans hf)
              clear hf
              go_wp2_with fail
              go_ret2
              exact ⟨_, by rw [hR.out]; rfl, by rw [hR.out]; exact fits_z, B1.out⟩
            · cases hn
            · have hR := Lib.hid (hL.out.trans hf)
              clear hf
              have hW := Fl.floatOfInt_W a
              clear hn
              go_wp2_with fail
              go_ret2
              exact ⟨_, by rw [hR.out]; rfl, by rw [hR.out]; exact fits_W (by first | omega | (simp; omega)), B1.out⟩
end Go.Proofs.YtajmdpndbfmdmaaDoor
