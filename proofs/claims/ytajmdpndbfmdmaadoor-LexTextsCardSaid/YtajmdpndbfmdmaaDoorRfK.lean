/-
  bailiffref03.token at a quote that closes, and at any byte. Conditions: a text of at most 70,000 bytes.
-/
import Derived.Test.YtajmdpndbfmdmaaDoorRfL
namespace Go.Proofs.YtajmdpndbfmdmaaDoor
open Go Go.RowKit

set_option maxHeartbeats 8000000 in
set_option maxRecDepth 100000 in
theorem rtok_quote1 (s : ByteArray) (p : Nat) (w : World) (hs : s.size ≤ 70000) (h0 : p < s.size) (hl : Lx.isL (s[p]'h0) = false) (hd : dig (s[p]'h0) = false) (hq : Lx.isQ (s[p]'h0) = true) (hz : Lx.clos (s[p]'h0) (s.data.toList.drop (p + 1)) 1 ≠ 0) :
    Calls Tryd.prog 109 #[.string s, .int .i64 p] w (RTok (Lx.tokL (s.data.toList.drop p)) p w) := by
  have hh := drop_cons s p h0
  obtain ⟨c, hc⟩ : ∃ c, s[p]'h0 = c := ⟨_, rfl⟩
  have hR : Lx.tokL (s.data.toList.drop p) = (if Lx.clos c (s.data.toList.drop (p + 1)) 1 = 0 then .error 0
       else if (plainV (strOf ((s.data.toList.drop (p + 1)).take (Lx.clos c (s.data.toList.drop (p + 1)) 1 - 1)))).2.2 = 5 then .error (1 + (plainV (strOf ((s.data.toList.drop (p + 1)).take (Lx.clos c (s.data.toList.drop (p + 1)) 1 - 1)))).2.1)
       else if (plainV (strOf ((s.data.toList.drop (p + 1)).take (Lx.clos c (s.data.toList.drop (p + 1)) 1 - 1)))).2.2 ≠ 0 then .error 0
       else .ok ((4, (plainV (strOf ((s.data.toList.drop (p + 1)).take (Lx.clos c (s.data.toList.drop (p + 1)) 1 - 1)))).1.data.toList, 0), Lx.clos c (s.data.toList.drop (p + 1)) 1 + 1)) := by
    conv => lhs; rw [hh]
    rw [Lx.tokL, if_neg (by rw [hl]; simp), if_neg (by rw [hd]; simp), if_pos hq, hc]
  rw [hR]
  have q0 := Lib.hid (fun w' => refFirst_any (s[p]'h0) w')
  have q1 := Lib.hid (fun w' => refDigit_any (s[p]'h0) w')
  rw [hl, hc] at q0
  rw [hd, hc] at q1
  rw [hc] at hq
  have hle := Lx.clos_le c (s.data.toList.drop (p + 1)) 1
  rw [List.length_drop, size_list] at hle
  obtain ⟨N, hN⟩ : ∃ N, N = Lx.clos c (s.data.toList.drop (p + 1)) 1 := ⟨_, rfl⟩
  rw [← hN] at hle ⊢
  rw [extract_in]
  have hp : (p : Int) < (s.size : Int) := by omega
  have hlt := c.toNat_lt
  have hN' := Lib.hid (show N = Lx.clos c (s.data.toList.drop (p + 1)) (p + 1 - p) from by rw [hN, show p + 1 - p = 1 from by omega])
  have hq' := Lib.hid hq
  have hquo : (((c.toNat : Int) == 34) = true) ∨ (((c.toNat : Int) == 34) = false ∧ ((c.toNat : Int) == 39) = true) := by
    unfold Lx.isQ at hq; simp at hq ⊢; omega
  have hn : N ≠ 0 := by rw [hN, ← hc]; exact hz
  clear hh hR hl hd hq hN hz
  have hle2 := hle hn
  rw [if_neg hn]
  have hXs : (s.extract (p + 1) (p + N)).size ≤ 70000 := by rw [← size_list, Lib.extract_data, List.length_take, List.length_drop, size_list]; omega
  have q2 := Lib.hid (fun w' => refPlain_any (s.extract (p + 1) (p + N)) w')
  have her := @Lx.plainV_err (s.extract (p + 1) (p + N))
  generalize plainV (s.extract (p + 1) (p + N)) = v at *
  obtain ⟨t, r, er⟩ := v
  simp only [plainW] at q2 her ⊢
  have hNs : (p : Int) + N < s.size := by omega
  have hN1 : 1 ≤ (N : Int) := by omega
  have hrb := Lib.hid (fun (e : er = 5) => show r ≤ 70000 from by have := her e; omega)
  obtain ⟨R, hR⟩ : ∃ R : Except Nat (Lx.Tk × Nat), R = (if er = 5 then .error (1 + r) else if er ≠ 0 then .error 0 else .ok ((4, t.data.toList, 0), N + 1)) := ⟨_, rfl⟩
  rw [← hR]
  have hR5 := Lib.hid (fun (e : er = 5) => hR.trans (if_pos e))
  have hR0 := Lib.hid (fun (e : er = 0) => hR.trans ((if_neg (by omega)).trans (if_neg (by omega))))
  have hRx := Lib.hid (fun (e : er ≠ 5) (e2 : er ≠ 0) => hR.trans ((if_neg e).trans (if_pos e2)))
  clear hle hR her hXs hle2 hn
  rcases hquo with g34 | ⟨g34, g39⟩
  · go_enter Tryd.func109, Tryd.ntmps109
    go_wp2_with fail
    refine (q0.out _).mono ?_; rintro e w' ⟨rfl, rfl⟩
    go_wp2_with fail
    refine (q1.out _).mono ?_; rintro e w' ⟨rfl, rfl⟩
    go_wp2_with fail
    go_loop [13] (fun i => ∃ j : Nat, p + 1 ≤ j ∧ j ≤ s.size ∧ i = .int .i64 j ∧ Hid (N = Lx.clos c (s.data.toList.drop j) (j - p))) (fun i => ((s.size : Int) - intOf i).toNat)
    case atStart => exact ⟨p + 1, Nat.le_refl _, by omega, by go_num, hN'⟩
    case round =>
      obtain ⟨j, hpj, hj, rfl, H⟩ := hrel
      by_cases cj : (j : Int) < s.size
      · obtain ⟨x, hx⟩ : ∃ x, s[j]'(by omega) = x := ⟨_, rfl⟩
        have hdj := drop_cons s j (by omega)
        rw [hx] at hdj
        have hH := H.out
        rw [hdj] at hH
        have cj4 : ¬ (s.size : Int) ≤ (j : Int) := by omega
        by_cases e1 : x = c
        · rw [e1, clos_q] at hH
          subst e1
          obtain rfl : j = p + N := by omega
          clear hH hdj
          go_wp2_with fail
          refine (q2.out _).mono ?_; rintro e w1 ⟨rfl, b1⟩
          obtain ⟨hc1, hf1⟩ := bcell b1
          have i0 : w1.cell? ⟨w.heap.size, 0, none⟩ = some (.int .u8 0) := (hc1 _ 0 (by simp <;> omega)).trans (rfirst_cell _ _ _ _ 0)
          have i1 : w1.cell? ⟨w.heap.size, 1, none⟩ = some (.int .i64 0) := (hc1 _ 1 (by simp <;> omega)).trans (rfirst_cell _ _ _ _ 1)
          have i2 : w1.cell? ⟨w.heap.size, 2, none⟩ = some (.string ByteArray.empty) := (hc1 _ 2 (by simp <;> omega)).trans (rfirst_cell _ _ _ _ 2)
          have i3 : w1.cell? ⟨w.heap.size, 3, none⟩ = some (.float .f64 0) := (hc1 _ 3 (by simp <;> omega)).trans (rfirst_cell _ _ _ _ 3)
          have j0 : w1.cell? ⟨w.heap.size + 1, 0, none⟩ = some (.int .u8 0) := (hc1 _ 0 (by simp)).trans (rsecond_cell _ _ _ _ 0)
          have j1 : w1.cell? ⟨w.heap.size + 1, 1, none⟩ = some (.int .i64 p) := (hc1 _ 1 (by simp)).trans (rsecond_cell _ _ _ _ 1)
          have j2 : w1.cell? ⟨w.heap.size + 1, 2, none⟩ = some (.string ByteArray.empty) := (hc1 _ 2 (by simp)).trans (rsecond_cell _ _ _ _ 2)
          have j3 : w1.cell? ⟨w.heap.size + 1, 3, none⟩ = some (.float .f64 0) := (hc1 _ 3 (by simp)).trans (rsecond_cell _ _ _ _ 3)
          have f0 : ∀ o, w1.frozen? ⟨w.heap.size, o, none⟩ = false := fun o => (hf1 _ o (by simp <;> omega)).trans (by simp [go_sem])
          have f1 : ∀ o, w1.frozen? ⟨w.heap.size + 1, o, none⟩ = false := fun o => (hf1 _ o (by simp)).trans (by simp [go_sem])
          have B1 := Lib.hid (below_three b1)
          clear b1 hc1 hf1
          by_cases h5 : er = 5
          · have hr := Lib.hid (hR5.out h5)
            have hpb : (r : Int) ≤ 70000 := by have := hrb.out h5; omega
            subst h5
            have hpe := Lib.hid (show ((p + (1 + r) : Nat) : Int) = (p : Int) + 1 + (r : Int) from by omega)
            go_wp2
            exact rtok_end (n := (p : Int) + 1 + (r : Int)) (store4_at ⟨i0, i1, i2, i3⟩ _ _ _ _) rfl rfl rfl rfl ⟨by rw [hr.out]; exact ⟨_, _, _, _, by rw [hpe.out]⟩, below_store4 B1.out (Nat.le_refl _) _ _ _ _⟩
          · have e5 : ((er : Int) == 5) = false := by rw [beq_eq_false_iff_ne]; omega
            have e5' : ¬ (er : Int) = 5 := by omega
            by_cases h6 : er = 0
            · have hr := Lib.hid (hR0.out h6)
              subst h6
              have hst := Lib.hid (show strOf t.data.toList = t from (strOf_inj rfl).symm)
              have hne := Lib.hid (show ((p + (N + 1) : Nat) : Int) = (p : Int) + (N : Int) + 1 from by omega)
              clear h5 e5 e5'
              go_wp2
              exact rtok_end (n := (p : Int) + (N : Int) + 1) (store4_at (four_oth (by omega) _ _ (four_oth (by omega) _ _ ⟨i0, i1, i2, i3⟩)) _ _ _ _) rfl rfl rfl rfl ⟨by rw [hr.out]; show Ending.returned (.tuple #[tkA 4 p t 0, .int .i64 ((p : Int) + (N : Int) + 1), .bool true]) = Ending.returned (.tuple #[tkA 4 p (strOf t.data.toList) 0, .int .i64 ((p + (N + 1) : Nat) : Int), .bool true]); rw [hst.out, hne.out], below_store4 ((B1.out.setCell (p := ⟨w.heap.size + 1, 0, none⟩) (by show _ ≤ w.heap.size + 1; omega) _).setCell (p := ⟨w.heap.size + 1, 2, none⟩) (by show _ ≤ w.heap.size + 1; omega) _) (Nat.le_refl _) _ _ _ _⟩
            · have hr := Lib.hid (hRx.out h5 h6)
              have e6 : ((er : Int) == 0) = false := by rw [beq_eq_false_iff_ne]; omega
              have e6' : ¬ (er : Int) = 0 := by omega
              have e6b := bne_t e6'
              clear h5 h6
              go_wp2
              exact rtok_end (n := ((p + 0 : Nat) : Int)) (store4_at ⟨i0, i1, i2, i3⟩ _ _ _ _) rfl rfl rfl rfl ⟨by rw [hr.out]; exact ⟨_, _, _, _, rfl⟩, below_store4 B1.out (Nat.le_refl _) _ _ _ _⟩
        · have n1 := u8_ne e1
          have n1b := bne_t n1
          by_cases e2 : Lx.eol x = true
          · rw [clos_e _ _ e1 e2] at hH
            exfalso; omega
          · have e2' : Lx.eol x = false := Bool.eq_false_iff.2 e2
            obtain ⟨f, f'⟩ := eol_no e2'
            have fb := bne_t f
            have fb' := bne_t f'
            by_cases e3 : x.toNat = 92
            · have g3 : ((x.toNat : Int) == 92) = true := by simp; omega
              by_cases c1 : (j : Int) + 1 < s.size
              · obtain ⟨y, hy⟩ : ∃ y, s[j + 1]'(by omega) = y := ⟨_, rfl⟩
                have hdj1 := drop_cons s (j + 1) (by omega)
                rw [hy] at hdj1
                rw [hdj1] at hH
                by_cases e4 : Lx.eol y = true
                · rw [clos_b1 _ _ _ e1 e3 e4 (eol_q e4 hq'.out), ← hdj1] at hH
                  have hnx := Lib.hid (show N = Lx.clos c (s.data.toList.drop (j + 1)) (j + 1 - p) from by rw [hH, show j + 1 - p = j - p + 1 from by omega])
                  clear hH hdj hdj1 e1 e2 e2' e3
                  rcases eol_yes e4 with k | ⟨k, k'⟩
                  · clear e4
                    go_wp2_with fail
                    go_round
                    case rel => exact ⟨j + 1, by omega, by omega, by go_num, hnx⟩
                    case measure => simp [intOf]; omega
                  · have kb := bne_t k
                    clear e4
                    go_wp2_with fail
                    go_round
                    case rel => exact ⟨j + 1, by omega, by omega, by go_num, hnx⟩
                    case measure => simp [intOf]; omega
                · have e4' : Lx.eol y = false := Bool.eq_false_iff.2 e4
                  obtain ⟨k, k'⟩ := eol_no e4'
                  have kb := bne_t k
                  have kb' := bne_t k'
                  rw [clos_b _ _ _ e1 e3 e4'] at hH
                  have hnx := Lib.hid (show N = Lx.clos c (s.data.toList.drop (j + 2)) (j + 2 - p) from by rw [hH, show j + 2 - p = j - p + 2 from by omega])
                  clear hH hdj hdj1 e1 e2 e2' e3 e4 e4'
                  go_wp2_with fail
                  go_round
                  case rel => exact ⟨j + 2, by omega, by omega, by go_num, hnx⟩
                  case measure => simp [intOf]; omega
              · have hdj1 : s.data.toList.drop (j + 1) = [] := List.drop_of_length_le (by rw [size_list]; omega)
                rw [hdj1, clos_b0 _ e1, ← hdj1] at hH
                have hnx := Lib.hid (show N = Lx.clos c (s.data.toList.drop (j + 1)) (j + 1 - p) from by rw [hH, show j + 1 - p = j - p + 1 from by omega])
                clear hH hdj hdj1 e1 e2 e2' e3
                go_wp2_with fail
                go_round
                case rel => exact ⟨j + 1, by omega, by omega, by go_num, hnx⟩
                case measure => simp [intOf]; omega
            · have g3 : ((x.toNat : Int) == 92) = false := by simp; omega
              rw [clos_n _ _ e1 e2' e3] at hH
              have hnx := Lib.hid (show N = Lx.clos c (s.data.toList.drop (j + 1)) (j + 1 - p) from by rw [hH, show j + 1 - p = j - p + 1 from by omega])
              clear hH hdj e1 e2 e2' e3
              go_wp2_with fail
              go_round
              case rel => exact ⟨j + 1, by omega, by omega, by go_num, hnx⟩
              case measure => simp [intOf]; omega
      · have hH := H.out
        rw [List.drop_of_length_le (by rw [size_list]; omega)] at hH
        exfalso; revert hH; show N = 0 → False; omega
  · go_enter Tryd.func109, Tryd.ntmps109
    go_wp2_with fail
    refine (q0.out _).mono ?_; rintro e w' ⟨rfl, rfl⟩
    go_wp2_with fail
    refine (q1.out _).mono ?_; rintro e w' ⟨rfl, rfl⟩
    go_wp2_with fail
    go_loop [13] (fun i => ∃ j : Nat, p + 1 ≤ j ∧ j ≤ s.size ∧ i = .int .i64 j ∧ Hid (N = Lx.clos c (s.data.toList.drop j) (j - p))) (fun i => ((s.size : Int) - intOf i).toNat)
    case atStart => exact ⟨p + 1, Nat.le_refl _, by omega, by go_num, hN'⟩
    case round =>
      obtain ⟨j, hpj, hj, rfl, H⟩ := hrel
      by_cases cj : (j : Int) < s.size
      · obtain ⟨x, hx⟩ : ∃ x, s[j]'(by omega) = x := ⟨_, rfl⟩
        have hdj := drop_cons s j (by omega)
        rw [hx] at hdj
        have hH := H.out
        rw [hdj] at hH
        have cj4 : ¬ (s.size : Int) ≤ (j : Int) := by omega
        by_cases e1 : x = c
        · rw [e1, clos_q] at hH
          subst e1
          obtain rfl : j = p + N := by omega
          clear hH hdj
          go_wp2_with fail
          refine (q2.out _).mono ?_; rintro e w1 ⟨rfl, b1⟩
          obtain ⟨hc1, hf1⟩ := bcell b1
          have i0 : w1.cell? ⟨w.heap.size, 0, none⟩ = some (.int .u8 0) := (hc1 _ 0 (by simp <;> omega)).trans (rfirst_cell _ _ _ _ 0)
          have i1 : w1.cell? ⟨w.heap.size, 1, none⟩ = some (.int .i64 0) := (hc1 _ 1 (by simp <;> omega)).trans (rfirst_cell _ _ _ _ 1)
          have i2 : w1.cell? ⟨w.heap.size, 2, none⟩ = some (.string ByteArray.empty) := (hc1 _ 2 (by simp <;> omega)).trans (rfirst_cell _ _ _ _ 2)
          have i3 : w1.cell? ⟨w.heap.size, 3, none⟩ = some (.float .f64 0) := (hc1 _ 3 (by simp <;> omega)).trans (rfirst_cell _ _ _ _ 3)
          have j0 : w1.cell? ⟨w.heap.size + 1, 0, none⟩ = some (.int .u8 0) := (hc1 _ 0 (by simp)).trans (rsecond_cell _ _ _ _ 0)
          have j1 : w1.cell? ⟨w.heap.size + 1, 1, none⟩ = some (.int .i64 p) := (hc1 _ 1 (by simp)).trans (rsecond_cell _ _ _ _ 1)
          have j2 : w1.cell? ⟨w.heap.size + 1, 2, none⟩ = some (.string ByteArray.empty) := (hc1 _ 2 (by simp)).trans (rsecond_cell _ _ _ _ 2)
          have j3 : w1.cell? ⟨w.heap.size + 1, 3, none⟩ = some (.float .f64 0) := (hc1 _ 3 (by simp)).trans (rsecond_cell _ _ _ _ 3)
          have f0 : ∀ o, w1.frozen? ⟨w.heap.size, o, none⟩ = false := fun o => (hf1 _ o (by simp <;> omega)).trans (by simp [go_sem])
          have f1 : ∀ o, w1.frozen? ⟨w.heap.size + 1, o, none⟩ = false := fun o => (hf1 _ o (by simp)).trans (by simp [go_sem])
          have B1 := Lib.hid (below_three b1)
          clear b1 hc1 hf1
          by_cases h5 : er = 5
          · have hr := Lib.hid (hR5.out h5)
            have hpb : (r : Int) ≤ 70000 := by have := hrb.out h5; omega
            subst h5
            have hpe := Lib.hid (show ((p + (1 + r) : Nat) : Int) = (p : Int) + 1 + (r : Int) from by omega)
            go_wp2
            exact rtok_end (n := (p : Int) + 1 + (r : Int)) (store4_at ⟨i0, i1, i2, i3⟩ _ _ _ _) rfl rfl rfl rfl ⟨by rw [hr.out]; exact ⟨_, _, _, _, by rw [hpe.out]⟩, below_store4 B1.out (Nat.le_refl _) _ _ _ _⟩
          · have e5 : ((er : Int) == 5) = false := by rw [beq_eq_false_iff_ne]; omega
            have e5' : ¬ (er : Int) = 5 := by omega
            by_cases h6 : er = 0
            · have hr := Lib.hid (hR0.out h6)
              subst h6
              have hst := Lib.hid (show strOf t.data.toList = t from (strOf_inj rfl).symm)
              have hne := Lib.hid (show ((p + (N + 1) : Nat) : Int) = (p : Int) + (N : Int) + 1 from by omega)
              clear h5 e5 e5'
              go_wp2
              exact rtok_end (n := (p : Int) + (N : Int) + 1) (store4_at (four_oth (by omega) _ _ (four_oth (by omega) _ _ ⟨i0, i1, i2, i3⟩)) _ _ _ _) rfl rfl rfl rfl ⟨by rw [hr.out]; show Ending.returned (.tuple #[tkA 4 p t 0, .int .i64 ((p : Int) + (N : Int) + 1), .bool true]) = Ending.returned (.tuple #[tkA 4 p (strOf t.data.toList) 0, .int .i64 ((p + (N + 1) : Nat) : Int), .bool true]); rw [hst.out, hne.out], below_store4 ((B1.out.setCell (p := ⟨w.heap.size + 1, 0, none⟩) (by show _ ≤ w.heap.size + 1; omega) _).setCell (p := ⟨w.heap.size + 1, 2, none⟩) (by show _ ≤ w.heap.size + 1; omega) _) (Nat.le_refl _) _ _ _ _⟩
            · have hr := Lib.hid (hRx.out h5 h6)
              have e6 : ((er : Int) == 0) = false := by rw [beq_eq_false_iff_ne]; omega
              have e6' : ¬ (er : Int) = 0 := by omega
              have e6b := bne_t e6'
              clear h5 h6
              go_wp2
              exact rtok_end (n := ((p + 0 : Nat) : Int)) (store4_at ⟨i0, i1, i2, i3⟩ _ _ _ _) rfl rfl rfl rfl ⟨by rw [hr.out]; exact ⟨_, _, _, _, rfl⟩, below_store4 B1.out (Nat.le_refl _) _ _ _ _⟩
        · have n1 := u8_ne e1
          have n1b := bne_t n1
          by_cases e2 : Lx.eol x = true
          · rw [clos_e _ _ e1 e2] at hH
            exfalso; omega
          · have e2' : Lx.eol x = false := Bool.eq_false_iff.2 e2
            obtain ⟨f, f'⟩ := eol_no e2'
            have fb := bne_t f
            have fb' := bne_t f'
            by_cases e3 : x.toNat = 92
            · have g3 : ((x.toNat : Int) == 92) = true := by simp; omega
              by_cases c1 : (j : Int) + 1 < s.size
              · obtain ⟨y, hy⟩ : ∃ y, s[j + 1]'(by omega) = y := ⟨_, rfl⟩
                have hdj1 := drop_cons s (j + 1) (by omega)
                rw [hy] at hdj1
                rw [hdj1] at hH
                by_cases e4 : Lx.eol y = true
                · rw [clos_b1 _ _ _ e1 e3 e4 (eol_q e4 hq'.out), ← hdj1] at hH
                  have hnx := Lib.hid (show N = Lx.clos c (s.data.toList.drop (j + 1)) (j + 1 - p) from by rw [hH, show j + 1 - p = j - p + 1 from by omega])
                  clear hH hdj hdj1 e1 e2 e2' e3
                  rcases eol_yes e4 with k | ⟨k, k'⟩
                  · clear e4
                    go_wp2_with fail
                    go_round
                    case rel => exact ⟨j + 1, by omega, by omega, by go_num, hnx⟩
                    case measure => simp [intOf]; omega
                  · have kb := bne_t k
                    clear e4
                    go_wp2_with fail
                    go_round
                    case rel => exact ⟨j + 1, by omega, by omega, by go_num, hnx⟩
                    case measure => simp [intOf]; omega
                · have e4' : Lx.eol y = false := Bool.eq_false_iff.2 e4
                  obtain ⟨k, k'⟩ := eol_no e4'
                  have kb := bne_t k
                  have kb' := bne_t k'
                  rw [clos_b _ _ _ e1 e3 e4'] at hH
                  have hnx := Lib.hid (show N = Lx.clos c (s.data.toList.drop (j + 2)) (j + 2 - p) from by rw [hH, show j + 2 - p = j - p + 2 from by omega])
                  clear hH hdj hdj1 e1 e2 e2' e3 e4 e4'
                  go_wp2_with fail
                  go_round
                  case rel => exact ⟨j + 2, by omega, by omega, by go_num, hnx⟩
                  case measure => simp [intOf]; omega
              · have hdj1 : s.data.toList.drop (j + 1) = [] := List.drop_of_length_le (by rw [size_list]; omega)
                rw [hdj1, clos_b0 _ e1, ← hdj1] at hH
                have hnx := Lib.hid (show N = Lx.clos c (s.data.toList.drop (j + 1)) (j + 1 - p) from by rw [hH, show j + 1 - p = j - p + 1 from by omega])
                clear hH hdj hdj1 e1 e2 e2' e3
                go_wp2_with fail
                go_round
                case rel => exact ⟨j + 1, by omega, by omega, by go_num, hnx⟩
                case measure => simp [intOf]; omega
            · have g3 : ((x.toNat : Int) == 92) = false := by simp; omega
              rw [clos_n _ _ e1 e2' e3] at hH
              have hnx := Lib.hid (show N = Lx.clos c (s.data.toList.drop (j + 1)) (j + 1 - p) from by rw [hH, show j + 1 - p = j - p + 1 from by omega])
              clear hH hdj e1 e2 e2' e3
              go_wp2_with fail
              go_round
              case rel => exact ⟨j + 1, by omega, by omega, by go_num, hnx⟩
              case measure => simp [intOf]; omega
      · have hH := H.out
        rw [List.drop_of_length_le (by rw [size_list]; omega)] at hH
        exfalso; revert hH; show N = 0 → False; omega
end Go.Proofs.YtajmdpndbfmdmaaDoor
