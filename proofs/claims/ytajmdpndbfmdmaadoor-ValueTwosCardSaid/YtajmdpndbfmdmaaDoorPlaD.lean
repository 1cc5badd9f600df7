/-
  The document's Bare and Trim return the string without blanks at its ends. Conditions: strings of at most 70,000 bytes.
-/
import Derived.Test.YtajmdpndbfmdmaaDoorPlaC
namespace Go.Proofs.YtajmdpndbfmdmaaDoor
open Go Go.RowKit

theorem get_list (s : ByteArray) (j : Nat) (h : j < s.size) : s.data.toList[j]? = some (s[j]'h) := by
  have h' : j < s.data.toList.length := by rw [size_list]; exact h
  rw [List.getElem?_eq_getElem h']; rfl

theorem trim_cut {s : ByteArray} {a b : Nat} (h1 : a ≤ b) (h2 : b ≤ s.size) (ha : ∀ j u, j < a → s.data.toList[j]? = some u → blanks.contains u = true) (hb : ∀ j u, b ≤ j → s.data.toList[j]? = some u → blanks.contains u = true)
    (ha2 : ∀ u, a < s.size → s.data.toList[a]? = some u → blanks.contains u = false) (hb2 : ∀ u, a < b → s.data.toList[b - 1]? = some u → blanks.contains u = false) : trimV s = s.extract a b := by
  unfold trimV
  symm
  apply strOf_inj
  rw [Lib.extract_data]
  unfold Lib.trimS
  by_cases hab : a = b
  · subst hab
    rw [Nat.sub_self, List.take_zero, Lib.trimRightS_take _ _ 0 (Nat.zero_le _) (fun j u _ hu => ?_) (fun _ h _ => absurd h (by omega)), List.take_zero]
    · rfl
    · by_cases hj : j < a
      · exact ha j u hj hu
      · exact hb j u (by omega) hu
  · rw [Lib.trimRightS_take _ _ b (by rw [size_list]; exact h2) hb (fun u _ hu => hb2 u (by omega) hu)]
    rw [Lib.trimLeftS_drop _ _ a (by rw [List.length_take, size_list]; omega)]
    · rw [List.take_drop, show a + (b - a) = b from by omega]
    · intro j u hj hu
      rw [List.getElem?_take_of_lt (by omega)] at hu
      exact ha j u hj hu
    · intro u hu
      rw [List.getElem?_take_of_lt (by omega)] at hu
      exact ha2 u (by omega) hu

set_option maxHeartbeats 1000000 in
set_option maxRecDepth 100000 in
theorem bare_any (s : ByteArray) (w : World) (hs : s.size ≤ 70000) :
    Calls Tryd.prog 88 #[.string s] w fun e w' => e = .returned (.string (trimV s)) ∧ w = w' := by
  have q := Lib.hid (fun c w' => blank_any c w')
  have hT := Lib.hid (fun (a b : Nat) => @trim_cut s a b)
  generalize trimV s = V at hT ⊢
  go_enter Tryd.func88, Tryd.ntmps88
  go_wp2_with fail
  go_loop [3] (fun x => ∃ k : Nat, k ≤ s.size ∧ x = .int .i64 k ∧ Hid (∀ j u, j < k → s.data.toList[j]? = some u → blanks.contains u = true)) (fun x => ((s.size : Int) - intOf x).toNat)
  case atStart => exact ⟨0, by omega, rfl, fun j u h => absurd h (by omega)⟩
  case round =>
    obtain ⟨k, hk, rfl, H⟩ := hrel
    have step : Hid ((∀ u, k < s.size → s.data.toList[k]? = some u → blanks.contains u = false) → True) := fun _ => trivial
    clear step
    by_cases c : (k : Int) < s.size
    · obtain ⟨u, hu⟩ : ∃ u, s[k]'(by omega) = u := ⟨_, rfl⟩
      have hg := Lib.hid (get_list s k (by omega))
      rw [hu] at hg
      cases hb : blanks.contains u with
      | true =>
        have H2 : Hid (∀ j v, j < k + 1 → s.data.toList[j]? = some v → blanks.contains v = true) := fun j v hj hv => by
          by_cases e : j = k
          · subst e
            rw [hg.out] at hv
            injection hv with hv
            rw [← hv]; exact hb
          · exact H.out j v (by omega) hv
        have q1 := Lib.hid (q.out u)
        rw [hb] at q1
        clear hb
        go_wp2_with fail
        refine (q1.out _).mono ?_; rintro e w' ⟨rfl, rfl⟩
        go_wp2_with fail
        go_round
        case rel => exact ⟨k + 1, by omega, by go_num, H2⟩
        case measure => simp [intOf]; omega
      | false =>
        have q1 := Lib.hid (q.out u)
        rw [hb] at q1
        have hA : Hid (∀ v, k < s.size → s.data.toList[k]? = some v → blanks.contains v = false) := fun v _ hv => by
          rw [hg.out] at hv
          injection hv with hv
          rw [← hv]; exact hb
        clear hb
        go_wp2_with fail
        refine (q1.out _).mono ?_; rintro e w' ⟨rfl, rfl⟩
        go_wp2_with fail
        go_loop [4] (fun x => ∃ m : Nat, k ≤ m ∧ m ≤ s.size ∧ x = .int .i64 m ∧ Hid (∀ j u, m ≤ j → s.data.toList[j]? = some u → blanks.contains u = true)) (fun x => (intOf x - (k : Int)).toNat)
        case atStart => exact ⟨s.size, by omega, by omega, rfl, fun j u h hu => by rw [List.getElem?_eq_none (by rw [size_list]; exact h)] at hu; cases hu⟩
        case round =>
          obtain ⟨m, hm0, hm1, rfl, HM⟩ := hrel
          by_cases c2 : (k : Int) < m
          · obtain ⟨v, hv⟩ : ∃ v, s[m - 1]'(by omega) = v := ⟨_, rfl⟩
            have hg2 := Lib.hid (get_list s (m - 1) (by omega))
            rw [hv] at hg2
            have i1 : ((m : Int) - 1).toNat = m - 1 := by omega
            have i2 : (0 : Int) ≤ (m : Int) - 1 := by omega
            have i3 : (m : Int) - 1 < s.size := by omega
            have q2 := Lib.hid (q.out v)
            cases hb : blanks.contains v with
            | true =>
              rw [hb] at q2
              have H2 : Hid (∀ j u, m - 1 ≤ j → s.data.toList[j]? = some u → blanks.contains u = true) := fun j u hj hju => by
                by_cases e : j = m - 1
                · subst e
                  rw [hg2.out] at hju
                  injection hju with hju
                  rw [← hju]; exact hb
                · exact HM.out j u (by omega) hju
              clear hb
              go_wp2_with fail
              refine (q2.out _).mono ?_; rintro e w' ⟨rfl, rfl⟩
              go_wp2_with fail
              go_round
              case rel => exact ⟨m - 1, by omega, by omega, by simp; omega, H2⟩
              case measure => simp [intOf]; omega
            | false =>
              rw [hb] at q2
              have hB2 : ∀ u, k < m → s.data.toList[m - 1]? = some u → blanks.contains u = false := fun u _ hju => by
                rw [hg2.out] at hju
                injection hju with hju
                rw [← hju]; exact hb
              have hV := Lib.hid (hT.out k m hm0 hm1 H.out HM.out hA.out hB2)
              clear hb hB2
              go_wp2_with fail
              refine (q2.out _).mono ?_; rintro e w' ⟨rfl, rfl⟩
              go_wp2_with fail
              go_ret
              exact ⟨by rw [hV.out]; rfl, rfl⟩
          · have hV := Lib.hid (hT.out k m hm0 hm1 H.out HM.out hA.out (fun _ h => absurd h (by omega)))
            go_wp2_with fail
            go_ret
            exact ⟨by rw [hV.out]; rfl, rfl⟩
    · have hA : Hid (∀ v, k < s.size → s.data.toList[k]? = some v → blanks.contains v = false) := fun v h _ => absurd h (by omega)
      go_wp2_with fail
      go_loop [4] (fun x => ∃ m : Nat, k ≤ m ∧ m ≤ s.size ∧ x = .int .i64 m ∧ Hid (∀ j u, m ≤ j → s.data.toList[j]? = some u → blanks.contains u = true)) (fun x => (intOf x - (k : Int)).toNat)
      case atStart => exact ⟨s.size, by omega, by omega, rfl, fun j u h hu => by rw [List.getElem?_eq_none (by rw [size_list]; exact h)] at hu; cases hu⟩
      case round =>
        obtain ⟨m, hm0, hm1, rfl, HM⟩ := hrel
        by_cases c2 : (k : Int) < m
        · obtain ⟨v, hv⟩ : ∃ v, s[m - 1]'(by omega) = v := ⟨_, rfl⟩
          have hg2 := Lib.hid (get_list s (m - 1) (by omega))
          rw [hv] at hg2
          have i1 : ((m : Int) - 1).toNat = m - 1 := by omega
          have i2 : (0 : Int) ≤ (m : Int) - 1 := by omega
          have i3 : (m : Int) - 1 < s.size := by omega
          have q2 := Lib.hid (q.out v)
          cases hb : blanks.contains v with
          | true =>
            rw [hb] at q2
            have H2 : Hid (∀ j u, m - 1 ≤ j → s.data.toList[j]? = some u → blanks.contains u = true) := fun j u hj hju => by
              by_cases e : j = m - 1
              · subst e
                rw [hg2.out] at hju
                injection hju with hju
                rw [← hju]; exact hb
              · exact HM.out j u (by omega) hju
            clear hb
            go_wp2_with fail
            refine (q2.out _).mono ?_; rintro e w' ⟨rfl, rfl⟩
            go_wp2_with fail
            go_round
            case rel => exact ⟨m - 1, by omega, by omega, by simp; omega, H2⟩
            case measure => simp [intOf]; omega
          | false =>
            rw [hb] at q2
            have hB2 : ∀ u, k < m → s.data.toList[m - 1]? = some u → blanks.contains u = false := fun u _ hju => by
              rw [hg2.out] at hju
              injection hju with hju
              rw [← hju]; exact hb
            have hV := Lib.hid (hT.out k m hm0 hm1 H.out HM.out hA.out hB2)
            clear hb hB2
            go_wp2_with fail
            refine (q2.out _).mono ?_; rintro e w' ⟨rfl, rfl⟩
            go_wp2_with fail
            go_ret
            exact ⟨by rw [hV.out]; rfl, rfl⟩
        · have hV := Lib.hid (hT.out k m hm0 hm1 H.out HM.out hA.out (fun _ h => absurd h (by omega)))
          go_wp2_with fail
          go_ret
          exact ⟨by rw [hV.out]; rfl, rfl⟩
theorem refTrim_str (s : ByteArray) (w : World) (hs : s.size ≤ 70000) :
    Calls Tryd.prog 34 #[.string s] w fun e w' => e = .returned (.string (trimV s)) ∧ w = w' := by
  have q := Lib.hid (bare_any s w hs)
  go_enter Tryd.func34, Tryd.ntmps34
  go_wp2_with fail
  refine q.out.mono ?_; rintro e w' ⟨rfl, rfl⟩
  go_wp2
  go_ret
  exact ⟨rfl, rfl⟩
end Go.Proofs.YtajmdpndbfmdmaaDoor
