/-
  lex.token at a quote and at a sign, and at any byte. Conditions: texts of at most 70,000 bytes that are not empty; the cell of internal/bytealg.MaxLen holds a whole number.
-/
import Derived.Test.YtajmdpndbfmdmaaDoorLexC
namespace Go.Proofs.YtajmdpndbfmdmaaDoor
open Go Go.RowKit

theorem extract_from1 (s : ByteArray) (e : Nat) : strOf ((s.data.toList.drop 1).take (e - 1)) = s.extract 1 e := (strOf_inj (by rw [Lib.extract_data])).symm

set_option maxHeartbeats 4000000 in
theorem token_quote (s : ByteArray) (w : World) (hs : s.size ≤ 70000) (h0 : 0 < s.size) (hl : Lx.isL (s[0]'h0) = false) (hd : dig (s[0]'h0) = false) (hq : Lx.isQ (s[0]'h0) = true) :
    Calls Tryd.prog 107 #[.string s] w (TokOut (Lx.tokL s.data.toList) w) := by
  have hh := head_cons s h0
  have hR : Lx.tokL s.data.toList = (if Lx.clos (s[0]'h0) (s.data.toList.drop 1) 1 = 0 then .error 0
       else if (plainV (strOf ((s.data.toList.drop 1).take (Lx.clos (s[0]'h0) (s.data.toList.drop 1) 1 - 1)))).2.2 = 5 then .error (1 + (plainV (strOf ((s.data.toList.drop 1).take (Lx.clos (s[0]'h0) (s.data.toList.drop 1) 1 - 1)))).2.1)
       else if (plainV (strOf ((s.data.toList.drop 1).take (Lx.clos (s[0]'h0) (s.data.toList.drop 1) 1 - 1)))).2.2 ≠ 0 then .error 0
       else .ok ((4, (plainV (strOf ((s.data.toList.drop 1).take (Lx.clos (s[0]'h0) (s.data.toList.drop 1) 1 - 1)))).1.data.toList, 0), Lx.clos (s[0]'h0) (s.data.toList.drop 1) 1 + 1)) := by
    conv => lhs; rw [hh]
    rw [Lx.tokL, if_neg (by rw [hl]; simp), if_neg (by rw [hd]; simp), if_pos hq]
  rw [hR]
  have q0 := Lib.hid (fun w' => kind_any (s[0]'h0) w')
  rw [kind_quote hl hd hq] at q0
  have q1 := Lib.hid (fun w' => closed_any s w' hs h0 hq)
  have hle := Lx.clos_le (s[0]'h0) (s.data.toList.drop 1) 1
  rw [List.length_drop, size_list] at hle
  generalize Lx.clos (s[0]'h0) (s.data.toList.drop 1) 1 = n at *
  rw [extract_from1]
  obtain ⟨c, hc⟩ : ∃ c, s[0]'h0 = c := ⟨_, rfl⟩
  rw [hc] at q0
  have hp : 0 < (s.size : Int) := by omega
  clear hh hR hl hd hq
  by_cases hn : n = 0
  · subst hn
    rw [if_pos rfl]
    clear hle
    go_enter Tryd.func107, Tryd.ntmps107
    go_wp2_with fail
    refine (q0.out _).mono ?_; rintro e w' ⟨rfl, rfl⟩
    go_wp2_with fail
    refine (q1.out _).mono ?_; rintro e w' ⟨rfl, rfl⟩
    go_wp2
    exact bodyPost_ret (v := .tuple #[tkA 0 0 ByteArray.empty 0, .int .i64 0, .bool false]) (by simp [results, Tryd.results107, go_sem]; rfl) rfl ⟨⟨_, _, _, _, rfl⟩, below_one⟩
  · have hle2 := hle hn
    have g1 : (1 : Int) ≤ n := by omega
    have g2 : (n : Int) ≤ s.size := by omega
    have g0 : ((n : Int) == 0) = false := by rw [beq_eq_false_iff_ne]; omega
    have g3 : (0 : Int) ≤ n := by omega
    rw [if_neg hn]
    have hXs : (s.extract 1 n).size ≤ 70000 := by rw [← size_list, Lib.extract_data, List.length_take, List.length_drop, size_list]; omega
    have q2 := Lib.hid (fun w' => plain_any (s.extract 1 n) w')
    have her := @Lx.plainV_err (s.extract 1 n)
    generalize plainV (s.extract 1 n) = v at *
    obtain ⟨t, p, er⟩ := v
    simp only [plainW] at q2 her ⊢
    clear hle hn
    by_cases h5 : er = 5
    · subst h5
      have hpb : (p : Int) ≤ 70000 := by have := her rfl; omega
      have hp0 : (0 : Int) ≤ p := by omega
      rw [if_pos rfl]
      have hpe := Lib.hid (show ((1 + p : Nat) : Int) = 1 + (p : Int) from by omega)
      clear her
      go_enter Tryd.func107, Tryd.ntmps107
      go_wp2_with fail
      refine (q0.out _).mono ?_; rintro e w' ⟨rfl, rfl⟩
      go_wp2_with fail
      refine (q1.out _).mono ?_; rintro e w' ⟨rfl, rfl⟩
      go_wp2_with fail
      refine (q2.out _).mono ?_; rintro e w1 ⟨rfl, b1⟩
      obtain ⟨hc1, hf1⟩ := bcell b1
      have i0 : w1.cell? ⟨w.heap.size, 0, none⟩ = some (.int .u8 0) := (hc1 _ 0 (by simp)).trans (one_cell _ _ _ 0)
      have i1 : w1.cell? ⟨w.heap.size, 1, none⟩ = some (.int .i64 0) := (hc1 _ 1 (by simp)).trans (one_cell _ _ _ 1)
      have i2 : w1.cell? ⟨w.heap.size, 2, none⟩ = some (.string ByteArray.empty) := (hc1 _ 2 (by simp)).trans (one_cell _ _ _ 2)
      have i3 : w1.cell? ⟨w.heap.size, 3, none⟩ = some (.float .f64 0) := (hc1 _ 3 (by simp)).trans (one_cell _ _ _ 3)
      have f0 : ∀ o, w1.frozen? ⟨w.heap.size, o, none⟩ = false := fun o => (hf1 _ o (by simp)).trans (by simp [go_sem])
      have B1 := Lib.hid (below_step b1)
      clear b1 hc1 hf1
      go_wp2
      exact token_end (n := 1 + (p : Int)) (store4_at ⟨i0, i1, i2, i3⟩ _ _ _ _) rfl rfl rfl rfl ⟨⟨_, _, _, _, by rw [hpe.out]⟩, below_store4 B1.out (Nat.le_refl _) _ _ _ _⟩
    · rw [if_neg h5]
      have e5 : ((er : Int) == 5) = false := by rw [beq_eq_false_iff_ne]; omega
      by_cases h6 : er = 0
      · subst h6
        rw [if_neg (by simp)]
        have hst := Lib.hid (show strOf t.data.toList = t from (strOf_inj rfl).symm)
        have hne := Lib.hid (show ((n + 1 : Nat) : Int) = (n : Int) + 1 from by omega)
        clear her h5
        go_enter Tryd.func107, Tryd.ntmps107
        go_wp2_with fail
        refine (q0.out _).mono ?_; rintro e w' ⟨rfl, rfl⟩
        go_wp2_with fail
        refine (q1.out _).mono ?_; rintro e w' ⟨rfl, rfl⟩
        go_wp2_with fail
        refine (q2.out _).mono ?_; rintro e w1 ⟨rfl, b1⟩
        obtain ⟨hc1, hf1⟩ := bcell b1
        have i0 : w1.cell? ⟨w.heap.size, 0, none⟩ = some (.int .u8 0) := (hc1 _ 0 (by simp)).trans (one_cell _ _ _ 0)
        have i1 : w1.cell? ⟨w.heap.size, 1, none⟩ = some (.int .i64 0) := (hc1 _ 1 (by simp)).trans (one_cell _ _ _ 1)
        have i2 : w1.cell? ⟨w.heap.size, 2, none⟩ = some (.string ByteArray.empty) := (hc1 _ 2 (by simp)).trans (one_cell _ _ _ 2)
        have i3 : w1.cell? ⟨w.heap.size, 3, none⟩ = some (.float .f64 0) := (hc1 _ 3 (by simp)).trans (one_cell _ _ _ 3)
        have f0 : ∀ o, w1.frozen? ⟨w.heap.size, o, none⟩ = false := fun o => (hf1 _ o (by simp)).trans (by simp [go_sem])
        have B1 := Lib.hid (below_step b1)
        clear b1 hc1 hf1
        go_wp2
        exact token_end (n := (n : Int) + 1) (store4_at (store4_at ⟨i0, i1, i2, i3⟩ _ _ _ _) _ _ _ _) rfl rfl rfl rfl ⟨by show Ending.returned (.tuple #[tkA 4 0 t 0, .int .i64 ((n : Int) + 1), .bool true]) = Ending.returned (.tuple #[tkA 4 0 (strOf t.data.toList) 0, .int .i64 ((n + 1 : Nat) : Int), .bool true]); rw [hst.out, hne.out], below_store4 (below_store4 B1.out (Nat.le_refl _) _ _ _ _) (Nat.le_refl _) _ _ _ _⟩
      · rw [if_pos h6]
        have e6 : ((er : Int) != 0) = true := by rw [bne_iff_ne]; omega
        clear her h5 h6
        go_enter Tryd.func107, Tryd.ntmps107
        go_wp2_with fail
        refine (q0.out _).mono ?_; rintro e w' ⟨rfl, rfl⟩
        go_wp2_with fail
        refine (q1.out _).mono ?_; rintro e w' ⟨rfl, rfl⟩
        go_wp2_with fail
        refine (q2.out _).mono ?_; rintro e w1 ⟨rfl, b1⟩
        obtain ⟨hc1, hf1⟩ := bcell b1
        have i0 : w1.cell? ⟨w.heap.size, 0, none⟩ = some (.int .u8 0) := (hc1 _ 0 (by simp)).trans (one_cell _ _ _ 0)
        have i1 : w1.cell? ⟨w.heap.size, 1, none⟩ = some (.int .i64 0) := (hc1 _ 1 (by simp)).trans (one_cell _ _ _ 1)
        have i2 : w1.cell? ⟨w.heap.size, 2, none⟩ = some (.string ByteArray.empty) := (hc1 _ 2 (by simp)).trans (one_cell _ _ _ 2)
        have i3 : w1.cell? ⟨w.heap.size, 3, none⟩ = some (.float .f64 0) := (hc1 _ 3 (by simp)).trans (one_cell _ _ _ 3)
        have f0 : ∀ o, w1.frozen? ⟨w.heap.size, o, none⟩ = false := fun o => (hf1 _ o (by simp)).trans (by simp [go_sem])
        have B1 := Lib.hid (below_step b1)
        clear b1 hc1 hf1
        go_wp2
        exact token_end (store4_at ⟨i0, i1, i2, i3⟩ _ _ _ _) rfl rfl rfl rfl ⟨⟨_, _, _, _, rfl⟩, below_store4 B1.out (Nat.le_refl _) _ _ _ _⟩

/-- No sign of more than k bytes stands there. -/
def NoSign (l : List UInt8) (k : Nat) : Prop := ∀ j, k < j → j ≤ 3 → j ≤ l.length → Lx.sgn (l.take j) = false
theorem signLen_of {l : List UInt8} {k : Nat} (h : NoSign l k) (h3 : k ≤ 3) (hk : k ≤ l.length) (hs : k = 0 ∨ Lx.sgn (l.take k) = true) : Lx.signLen l = k := by
  have no : ∀ j, k < j → j ≤ 3 → ¬ (j ≤ l.length ∧ Lx.sgn (l.take j) = true) := fun j h1 h2 ⟨h4, h5⟩ => by rw [h j h1 h2 h4] at h5; cases h5
  unfold Lx.signLen
  have hc : k = 0 ∨ k = 1 ∨ k = 2 ∨ k = 3 := by omega
  rcases hc with rfl | rfl | rfl | rfl
  · rw [if_neg (no 3 (by omega) (by omega)), if_neg (no 2 (by omega) (by omega)), if_neg (no 1 (by omega) (by omega))]
  · rw [if_neg (no 3 (by omega) (by omega)), if_neg (no 2 (by omega) (by omega)), if_pos ⟨hk, by simpa using hs⟩]
  · rw [if_neg (no 3 (by omega) (by omega)), if_pos ⟨hk, by simpa using hs⟩]
  · rw [if_pos ⟨hk, by simpa using hs⟩]

set_option maxHeartbeats 4000000 in
theorem token_sign (s : ByteArray) (m : Int) (w : World) (hs : s.size ≤ 70000) (h0 : 0 < s.size) (hm : w.cell? ⟨1, 0, none⟩ = some (.int .i64 m)) (hw : 1 < w.heap.size) (hl : Lx.isL (s[0]'h0) = false) (hd : dig (s[0]'h0) = false) (hq : Lx.isQ (s[0]'h0) = false) :
    Calls Tryd.prog 107 #[.string s] w (TokOut (Lx.tokL s.data.toList) w) := by
  have hh := head_cons s h0
  have hR : Lx.tokL s.data.toList = (if Lx.signLen s.data.toList = 0 then .error 0 else .ok ((5, s.data.toList.take (Lx.signLen s.data.toList), 0), Lx.signLen s.data.toList)) := by
    conv => lhs; rw [hh]
    rw [Lx.tokL, if_neg (by rw [hl]; simp), if_neg (by rw [hd]; simp), if_neg (by rw [hq]; simp), ← hh]
  rw [hR]
  have q0 := Lib.hid (fun w' => kind_any (s[0]'h0) w')
  rw [kind_other hl hd hq] at q0
  have qs := Lib.hid (fun (k : Nat) w' (hk : k ≤ s.size) hm' => lexSign_any (s.extract 0 k) m w' (by simp; omega) hm')
  have hSL := Lib.hid (fun k (h : NoSign s.data.toList k) h3 hk => signLen_of h h3 (by rw [size_list]; exact hk))
  have hst := Lib.hid (strOf_take s)
  obtain ⟨c, hc⟩ : ∃ c, s[0]'h0 = c := ⟨_, rfl⟩
  rw [hc] at q0
  have hm' := Lib.hid hm
  have hp : 0 < (s.size : Int) := by omega
  generalize Lx.signLen s.data.toList = SL at *
  clear hh hR hl hd hq hm
  obtain ⟨R, hRR⟩ : ∃ R : Except Nat (Lx.Tk × Nat), R = (if SL = 0 then .error 0 else .ok ((5, s.data.toList.take SL, 0), SL)) := ⟨_, rfl⟩
  rw [← hRR]
  have hRR' := Lib.hid hRR
  clear hRR
  obtain ⟨k0, hk0, hk3, hks, hno⟩ : ∃ k0 : Nat, Hid (min (3 : Int) (s.size : Int) = k0) ∧ k0 ≤ 3 ∧ k0 ≤ s.size ∧ Hid (NoSign s.data.toList k0) := by
    by_cases h : s.size < 3
    · exact ⟨s.size, Lib.hid (by omega), by omega, by omega, Lib.hid (fun j h1 h2 h3 => by rw [size_list] at h3; omega)⟩
    · exact ⟨3, Lib.hid (by omega), by omega, by omega, Lib.hid (fun j h1 h2 h3 => by omega)⟩
  go_enter Tryd.func107, Tryd.ntmps107
  go_wp2_with fail
  refine (q0.out _).mono ?_; rintro e w' ⟨rfl, rfl⟩
  go_wp2_with fail
  go_loop [3] (fun n => ∃ k : Nat, k ≤ 3 ∧ k ≤ s.size ∧ n = .int .i64 k ∧ Hid (NoSign s.data.toList k)) (fun n => (intOf n).toNat)
  case atStart => exact ⟨k0, hk3, hks, by rw [hk0.out], hno⟩
  case round =>
    obtain ⟨k, hk3, hks, rfl, H⟩ := hrel
    have hks' : (k : Int) ≤ s.size := by omega
    have hk0' : (0 : Int) ≤ k := by omega
    by_cases hk : 0 < k
    · have hk' : 0 < (k : Int) := by omega
      have q := Lib.hid (fun w' => qs.out k w' hks)
      cases hV : Lx.sgn (s.extract 0 k).data.toList with
      | true =>
        have hr := Lib.hid (hSL.out k H.out hk3 hks (.inr (by rw [← extract_take]; exact hV)))
        rw [hV] at q
        clear hV
        go_wp2_with fail
        refine (q.out _ ?_).mono ?_
        · exact (World.cell?_alloc_lt _ _ ⟨1, 0, none⟩ hw).trans hm'.out
        rintro e w' ⟨rfl, rfl⟩
        go_wp2
        exact bodyPost_ret (v := .tuple #[tkA 5 0 (s.extract 0 k) 0, .int .i64 k, .bool true]) (by simp [results, Tryd.results107, go_sem]; rfl) rfl ⟨by rw [hRR'.out, hr.out, if_neg (by omega)]; show Ending.returned (.tuple #[tkA 5 0 (s.extract 0 k) 0, .int .i64 k, .bool true]) = Ending.returned (.tuple #[tkA 5 0 (strOf (s.data.toList.take k)) 0, .int .i64 k, .bool true]); rw [hst.out], below_one⟩
      | false =>
        have hg := Lib.hid (show NoSign s.data.toList (k - 1) from fun j h1 h2 h3 => by
          by_cases e : j = k
          · subst e; rw [← extract_take]; exact hV
          · exact H.out j (by omega) h2 h3)
        rw [hV] at q
        clear hV
        have hc1 : ((k - 1 : Nat) : Int) = (k : Int) - 1 := by omega
        have hc2 := Lib.hid hc1
        clear hc1
        go_wp2_with fail
        refine (q.out _ ?_).mono ?_
        · exact (World.cell?_alloc_lt _ _ ⟨1, 0, none⟩ hw).trans hm'.out
        rintro e w' ⟨rfl, rfl⟩
        go_wp2_with fail
        go_round
        case rel => exact ⟨k - 1, by omega, by omega, by rw [hc2.out], hg⟩
        case measure => simp [intOf]; omega
    · obtain rfl : k = 0 := by omega
      have hr := Lib.hid (hSL.out 0 H.out (by omega) (by omega) (.inl rfl))
      go_wp2
      exact bodyPost_ret (v := .tuple #[tkA 5 0 (s.extract 0 0) 0, .int .i64 0, .bool false]) (by simp [results, Tryd.results107, go_sem]; rfl) rfl ⟨by rw [hRR'.out, hr.out, if_pos rfl]; exact ⟨_, _, _, _, rfl⟩, below_one⟩

theorem token_any (s : ByteArray) (m : Int) (w : World) (hs : s.size ≤ 70000) (h0 : 0 < s.size) (hm : w.cell? ⟨1, 0, none⟩ = some (.int .i64 m)) (hw : 1 < w.heap.size) :
    Calls Tryd.prog 107 #[.string s] w (TokOut (Lx.tokL s.data.toList) w) := by
  cases hl : Lx.isL (s[0]'h0) with
  | true => exact token_letter s m w hs h0 hm hw hl
  | false =>
    cases hd : dig (s[0]'h0) with
    | true => exact token_digit s w hs h0 hl hd
    | false =>
      cases hq : Lx.isQ (s[0]'h0) with
      | true => exact token_quote s w hs h0 hl hd hq
      | false => exact token_sign s m w hs h0 hm hw hl hd hq
end Go.Proofs.YtajmdpndbfmdmaaDoor
