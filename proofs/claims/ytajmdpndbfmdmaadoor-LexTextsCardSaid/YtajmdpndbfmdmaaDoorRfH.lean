/-
  bailiffref03.token at a quote, and at any byte. Conditions: a text of at most 70,000 bytes.
-/
import Derived.Test.YtajmdpndbfmdmaaDoorRfL
namespace Go.Proofs.YtajmdpndbfmdmaaDoor
open Go Go.RowKit

set_option maxHeartbeats 8000000 in
set_option maxRecDepth 100000 in
theorem rtok_quote0 (s : ByteArray) (p : Nat) (w : World) (hs : s.size ≤ 70000) (h0 : p < s.size) (hl : Lx.isL (s[p]'h0) = false) (hd : dig (s[p]'h0) = false) (hq : Lx.isQ (s[p]'h0) = true) (hz : Lx.clos (s[p]'h0) (s.data.toList.drop (p + 1)) 1 = 0) :
    Calls Tryd.prog 109 #[.string s, .int .i64 p] w (RTok (Lx.tokL (s.data.toList.drop p)) p w) := by
  have hh := drop_cons s p h0
  obtain ⟨c, hc⟩ : ∃ c, s[p]'h0 = c := ⟨_, rfl⟩
  have hR : Lx.tokL (s.data.toList.drop p) = (if Lx.clos c (s.data.toList.drop (p + 1)) 1 = 0 then .error 0
       else if (plainV (strOf ((s.data.toList.drop (p + 1)).take (Lx.clos c (s.data.toList.drop (p + 1)) 1 - 1)))).2.2 = 5 then .error (1 + (plainV (strOf ((s.data.toList.drop (p + 1)).take (Lx.clos c (s.data.toList.drop (p + 1)) 1 - 1)))).2.1)
       else if (plainV (strOf ((s.data.toList.drop (p + 1)).take (Lx.clos c (s.data.toList.drop (p + 1)) 1 - 1)))).2.2 ≠ 0 then .error 0
       else .ok ((4, (plainV (strOf ((s.data.toList.drop (p + 1)).take (Lx.clos c (s.data.toList.drop (p + 1)) 1 - 1)))).1.data.toList, 0), Lx.clos c (s.data.toList.drop (p + 1)) 1 + 1)) := by
    conv => lhs; rw [hh]
    rw [Lx.tokL, if_neg (by rw [hl]; simp), if_neg (by rw [hd]; simp), if_pos hq, hc]
  rw [hR]
  have q0 := Lib.hid (fun w' => refFirst_any (s[p]'h0) w')
  have q1 := Lib.hid (fun w' => refDigit_any (s[p]'h0) w')
  rw [hl, hc] at q0
  rw [hd, hc] at q1
  rw [hc] at hq
  have hle := Lx.clos_le c (s.data.toList.drop (p + 1)) 1
  rw [List.length_drop, size_list] at hle
  obtain ⟨N, hN⟩ : ∃ N, N = Lx.clos c (s.data.toList.drop (p + 1)) 1 := ⟨_, rfl⟩
  rw [← hN] at hle ⊢
  rw [extract_in]
  have hp : (p : Int) < (s.size : Int) := by omega
  have hlt := c.toNat_lt
  have hN' := Lib.hid (show N = Lx.clos c (s.data.toList.drop (p + 1)) (p + 1 - p) from by rw [hN, show p + 1 - p = 1 from by omega])
  have hq' := Lib.hid hq
  have hquo : (((c.toNat : Int) == 34) = true) ∨ (((c.toNat : Int) == 34) = false ∧ ((c.toNat : Int) == 39) = true) := by
    unfold Lx.isQ at hq; simp at hq ⊢; omega
  have hn : N = 0 := by rw [hN, ← hc]; exact hz
  clear hh hR hl hd hq hN hz
  rw [if_pos hn]
  subst hn
  clear hle
  rcases hquo with g34 | ⟨g34, g39⟩
  · go_enter Tryd.func109, Tryd.ntmps109
    go_wp2_with fail
    refine (q0.out _).mono ?_; rintro e w' ⟨rfl, rfl⟩
    go_wp2_with fail
    refine (q1.out _).mono ?_; rintro e w' ⟨rfl, rfl⟩
    go_wp2_with fail
    go_loop [13] (fun i => ∃ j : Nat, p + 1 ≤ j ∧ j ≤ s.size ∧ i = .int .i64 j ∧ Hid (0 = Lx.clos c (s.data.toList.drop j) (j - p))) (fun i => ((s.size : Int) - intOf i).toNat)
    case atStart => exact ⟨p + 1, Nat.le_refl _, by omega, by go_num, hN'⟩
    case round =>
      obtain ⟨j, hpj, hj, rfl, H⟩ := hrel
      by_cases cj : (j : Int) < s.size
      · obtain ⟨x, hx⟩ : ∃ x, s[j]'(by omega) = x := ⟨_, rfl⟩
        have hdj := drop_cons s j (by omega)
        rw [hx] at hdj
        have hH := H.out
        rw [hdj] at hH
        have cj4 : ¬ (s.size : Int) ≤ (j : Int) := by omega
        by_cases e1 : x = c
        · rw [e1, clos_q] at hH
          subst e1
          exfalso; omega
        · have n1 := u8_ne e1
          have n1b := bne_t n1
          by_cases e2 : Lx.eol x = true
          · clear hH hdj
            rcases eol_yes e2 with f | ⟨f, f'⟩
            · clear e2 e1
              go_wp2
              exact bodyPost_ret (v := .tuple #[tkA 0 0 ByteArray.empty 0, .int .i64 ((p + 0 : Nat) : Int), .bool false]) (by simp [results, Tryd.results109, go_sem]; rfl) rfl ⟨⟨_, _, _, _, rfl⟩, below_two⟩
            · have fb := bne_t f
              clear e2 e1
              go_wp2
              exact bodyPost_ret (v := .tuple #[tkA 0 0 ByteArray.empty 0, .int .i64 ((p + 0 : Nat) : Int), .bool false]) (by simp [results, Tryd.results109, go_sem]; rfl) rfl ⟨⟨_, _, _, _, rfl⟩, below_two⟩
          · have e2' : Lx.eol x = false := Bool.eq_false_iff.2 e2
            obtain ⟨f, f'⟩ := eol_no e2'
            have fb := bne_t f
            have fb' := bne_t f'
            by_cases e3 : x.toNat = 92
            · have g3 : ((x.toNat : Int) == 92) = true := by simp; omega
              by_cases c1 : (j : Int) + 1 < s.size
              · obtain ⟨y, hy⟩ : ∃ y, s[j + 1]'(by omega) = y := ⟨_, rfl⟩
                have hdj1 := drop_cons s (j + 1) (by omega)
                rw [hy] at hdj1
                rw [hdj1] at hH
                by_cases e4 : Lx.eol y = true
                · rw [clos_b1 _ _ _ e1 e3 e4 (eol_q e4 hq'.out), ← hdj1] at hH
                  have hnx := Lib.hid (show 0 = Lx.clos c (s.data.toList.drop (j + 1)) (j + 1 - p) from by rw [hH, show j + 1 - p = j - p + 1 from by omega])
                  clear hH hdj hdj1 e1 e2 e2' e3
                  rcases eol_yes e4 with k | ⟨k, k'⟩
                  · clear e4
                    go_wp2_with fail
                    go_round
                    case rel => exact ⟨j + 1, by omega, by omega, by go_num, hnx⟩
                    case measure => simp [intOf]; omega
                  · have kb := bne_t k
                    clear e4
                    go_wp2_with fail
                    go_round
                    case rel => exact ⟨j + 1, by omega, by omega, by go_num, hnx⟩
                    case measure => simp [intOf]; omega
                · have e4' : Lx.eol y = false := Bool.eq_false_iff.2 e4
                  obtain ⟨k, k'⟩ := eol_no e4'
                  have kb := bne_t k
                  have kb' := bne_t k'
                  rw [clos_b _ _ _ e1 e3 e4'] at hH
                  have hnx := Lib.hid (show 0 = Lx.clos c (s.data.toList.drop (j + 2)) (j + 2 - p) from by rw [hH, show j + 2 - p = j - p + 2 from by omega])
                  clear hH hdj hdj1 e1 e2 e2' e3 e4 e4'
                  go_wp2_with fail
                  go_round
                  case rel => exact ⟨j + 2, by omega, by omega, by go_num, hnx⟩
                  case measure => simp [intOf]; omega
              · have hdj1 : s.data.toList.drop (j + 1) = [] := List.drop_of_length_le (by rw [size_list]; omega)
                rw [hdj1, clos_b0 _ e1, ← hdj1] at hH
                have hnx := Lib.hid (show 0 = Lx.clos c (s.data.toList.drop (j + 1)) (j + 1 - p) from by rw [hH, show j + 1 - p = j - p + 1 from by omega])
                clear hH hdj hdj1 e1 e2 e2' e3
                go_wp2_with fail
                go_round
                case rel => exact ⟨j + 1, by omega, by omega, by go_num, hnx⟩
                case measure => simp [intOf]; omega
            · have g3 : ((x.toNat : Int) == 92) = false := by simp; omega
              rw [clos_n _ _ e1 e2' e3] at hH
              have hnx := Lib.hid (show 0 = Lx.clos c (s.data.toList.drop (j + 1)) (j + 1 - p) from by rw [hH, show j + 1 - p = j - p + 1 from by omega])
              clear hH hdj e1 e2 e2' e3
              go_wp2_with fail
              go_round
              case rel => exact ⟨j + 1, by omega, by omega, by go_num, hnx⟩
              case measure => simp [intOf]; omega
      · have cj4 : (s.size : Int) ≤ (j : Int) := by omega
        go_wp2
        exact bodyPost_ret (v := .tuple #[tkA 0 0 ByteArray.empty 0, .int .i64 ((p + 0 : Nat) : Int), .bool false]) (by simp [results, Tryd.results109, go_sem]; rfl) rfl ⟨⟨_, _, _, _, rfl⟩, below_two⟩
  · go_enter Tryd.func109, Tryd.ntmps109
    go_wp2_with fail
    refine (q0.out _).mono ?_; rintro e w' ⟨rfl, rfl⟩
    go_wp2_with fail
    refine (q1.out _).mono ?_; rintro e w' ⟨rfl, rfl⟩
    go_wp2_with fail
    go_loop [13] (fun i => ∃ j : Nat, p + 1 ≤ j ∧ j ≤ s.size ∧ i = .int .i64 j ∧ Hid (0 = Lx.clos c (s.data.toList.drop j) (j - p))) (fun i => ((s.size : Int) - intOf i).toNat)
    case atStart => exact ⟨p + 1, Nat.le_refl _, by omega, by go_num, hN'⟩
    case round =>
      obtain ⟨j, hpj, hj, rfl, H⟩ := hrel
      by_cases cj : (j : Int) < s.size
      · obtain ⟨x, hx⟩ : ∃ x, s[j]'(by omega) = x := ⟨_, rfl⟩
        have hdj := drop_cons s j (by omega)
        rw [hx] at hdj
        have hH := H.out
        rw [hdj] at hH
        have cj4 : ¬ (s.size : Int) ≤ (j : Int) := by omega
        by_cases e1 : x = c
        · rw [e1, clos_q] at hH
          subst e1
          exfalso; omega
        · have n1 := u8_ne e1
          have n1b := bne_t n1
          by_cases e2 : Lx.eol x = true
          · clear hH hdj
            rcases eol_yes e2 with f | ⟨f, f'⟩
            · clear e2 e1
              go_wp2
              exact bodyPost_ret (v := .tuple #[tkA 0 0 ByteArray.empty 0, .int .i64 ((p + 0 : Nat) : Int), .bool false]) (by simp [results, Tryd.results109, go_sem]; rfl) rfl ⟨⟨_, _, _, _, rfl⟩, below_two⟩
            · have fb := bne_t f
              clear e2 e1
              go_wp2
              exact bodyPost_ret (v := .tuple #[tkA 0 0 ByteArray.empty 0, .int .i64 ((p + 0 : Nat) : Int), .bool false]) (by simp [results, Tryd.results109, go_sem]; rfl) rfl ⟨⟨_, _, _, _, rfl⟩, below_two⟩
          · have e2' : Lx.eol x = false := Bool.eq_false_iff.2 e2
            obtain ⟨f, f'⟩ := eol_no e2'
            have fb := bne_t f
            have fb' := bne_t f'
            by_cases e3 : x.toNat = 92
            · have g3 : ((x.toNat : Int) == 92) = true := by simp; omega
              by_cases c1 : (j : Int) + 1 < s.size
              · obtain ⟨y, hy⟩ : ∃ y, s[j + 1]'(by omega) = y := ⟨_, rfl⟩
                have hdj1 := drop_cons s (j + 1) (by omega)
                rw [hy] at hdj1
                rw [hdj1] at hH
                by_cases e4 : Lx.eol y = true
                · rw [clos_b1 _ _ _ e1 e3 e4 (eol_q e4 hq'.out), ← hdj1] at hH
                  have hnx := Lib.hid (show 0 = Lx.clos c (s.data.toList.drop (j + 1)) (j + 1 - p) from by rw [hH, show j + 1 - p = j - p + 1 from by omega])
                  clear hH hdj hdj1 e1 e2 e2' e3
                  rcases eol_yes e4 with k | ⟨k, k'⟩
                  · clear e4
                    go_wp2_with fail
                    go_round
                    case rel => exact ⟨j + 1, by omega, by omega, by go_num, hnx⟩
                    case measure => simp [intOf]; omega
                  · have kb := bne_t k
                    clear e4
                    go_wp2_with fail
                    go_round
                    case rel => exact ⟨j + 1, by omega, by omega, by go_num, hnx⟩
                    case measure => simp [intOf]; omega
                · have e4' : Lx.eol y = false := Bool.eq_false_iff.2 e4
                  obtain ⟨k, k'⟩ := eol_no e4'
                  have kb := bne_t k
                  have kb' := bne_t k'
                  rw [clos_b _ _ _ e1 e3 e4'] at hH
                  have hnx := Lib.hid (show 0 = Lx.clos c (s.data.toList.drop (j + 2)) (j + 2 - p) from by rw [hH, show j + 2 - p = j - p + 2 from by omega])
                  clear hH hdj hdj1 e1 e2 e2' e3 e4 e4'
                  go_wp2_with fail
                  go_round
                  case rel => exact ⟨j + 2, by omega, by omega, by go_num, hnx⟩
                  case measure => simp [intOf]; omega
              · have hdj1 : s.data.toList.drop (j + 1) = [] := List.drop_of_length_le (by rw [size_list]; omega)
                rw [hdj1, clos_b0 _ e1, ← hdj1] at hH
                have hnx := Lib.hid (show 0 = Lx.clos c (s.data.toList.drop (j + 1)) (j + 1 - p) from by rw [hH, show j + 1 - p = j - p + 1 from by omega])
                clear hH hdj hdj1 e1 e2 e2' e3
                go_wp2_with fail
                go_round
                case rel => exact ⟨j + 1, by omega, by omega, by go_num, hnx⟩
                case measure => simp [intOf]; omega
            · have g3 : ((x.toNat : Int) == 92) = false := by simp; omega
              rw [clos_n _ _ e1 e2' e3] at hH
              have hnx := Lib.hid (show 0 = Lx.clos c (s.data.toList.drop (j + 1)) (j + 1 - p) from by rw [hH, show j + 1 - p = j - p + 1 from by omega])
              clear hH hdj e1 e2 e2' e3
              go_wp2_with fail
              go_round
              case rel => exact ⟨j + 1, by omega, by omega, by go_num, hnx⟩
              case measure => simp [intOf]; omega
      · have cj4 : (s.size : Int) ≤ (j : Int) := by omega
        go_wp2
        exact bodyPost_ret (v := .tuple #[tkA 0 0 ByteArray.empty 0, .int .i64 ((p + 0 : Nat) : Int), .bool false]) (by simp [results, Tryd.results109, go_sem]; rfl) rfl ⟨⟨_, _, _, _, rfl⟩, below_two⟩
end Go.Proofs.YtajmdpndbfmdmaaDoor
