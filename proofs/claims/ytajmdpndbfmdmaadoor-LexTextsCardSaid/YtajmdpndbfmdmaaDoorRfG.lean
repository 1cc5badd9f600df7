/-
  bailiffref03.token at a digit. Conditions: a text of at most 70,000 bytes.
-/
import Derived.Test.YtajmdpndbfmdmaaDoorRfF
namespace Go.Proofs.YtajmdpndbfmdmaaDoor
open Go Go.RowKit

theorem rtok_end {a : Act} {W w : World} {b : Nat} {R : Except Nat (Lx.Tk × Nat)} {q : Nat} {k p : Int} {s : ByteArray} {x : Nat} {n : Int} {ok : Bool}
    (h : W.cell? ⟨b, 0, none⟩ = some (.int .u8 k) ∧ W.cell? ⟨b, 1, none⟩ = some (.int .i64 p) ∧ W.cell? ⟨b, 2, none⟩ = some (.string s) ∧ W.cell? ⟨b, 3, none⟩ = some (.float .f64 x))
    (hb : a.tmps[4]? = some (.pointer (some ⟨b, 0, none⟩))) (hn : a.tmps[5]? = some (.int .i64 n)) (ho : a.tmps[6]? = some (.bool ok)) (hd : a.defers = [])
    (post : RTok R q w (.returned (.tuple #[tkA k p s x, .int .i64 n, .bool ok])) W) : bodyPost Tryd.prog Tryd.f109 (RTok R q w) .ret a W := by
  obtain ⟨h0, h1, h2, h3⟩ := h
  exact bodyPost_ret (v := .tuple #[tkA k p s x, .int .i64 n, .bool ok]) (by simp [results, Tryd.results109, go_sem, hb, hn, ho, h0, h1, h2, h3]; rfl) hd post
theorem cell_oth {w : World} {b c : Nat} (h : b ≠ c) (i j : Nat) (v : Value) : (w.setCell ⟨b, i, none⟩ v).cell? ⟨c, j, none⟩ = w.cell? ⟨c, j, none⟩ :=
  World.cell?_setCell_other _ _ _ _ (by intro e; injection e with e _ _; exact h e)
theorem four_oth {w : World} {b c : Nat} (h : b ≠ c) (i : Nat) (v : Value) {u0 u1 u2 u3 : Value} (g : w.cell? ⟨c, 0, none⟩ = some u0 ∧ w.cell? ⟨c, 1, none⟩ = some u1 ∧ w.cell? ⟨c, 2, none⟩ = some u2 ∧ w.cell? ⟨c, 3, none⟩ = some u3) :
    (w.setCell ⟨b, i, none⟩ v).cell? ⟨c, 0, none⟩ = some u0 ∧ (w.setCell ⟨b, i, none⟩ v).cell? ⟨c, 1, none⟩ = some u1 ∧ (w.setCell ⟨b, i, none⟩ v).cell? ⟨c, 2, none⟩ = some u2 ∧ (w.setCell ⟨b, i, none⟩ v).cell? ⟨c, 3, none⟩ = some u3 :=
  ⟨(cell_oth h _ _ _).trans g.1, (cell_oth h _ _ _).trans g.2.1, (cell_oth h _ _ _).trans g.2.2.1, (cell_oth h _ _ _).trans g.2.2.2⟩

/-- How many digits from here. -/
def digN (l : List UInt8) : Nat := (l.takeWhile dig).length
theorem digN_go {s : ByteArray} {k : Nat} (h : k < s.size) (hn : dig (s[k]'h) = true) : digN (s.data.toList.drop k) = 1 + digN (s.data.toList.drop (k + 1)) := by
  unfold digN
  rw [drop_cons s k h, List.takeWhile_cons, if_pos hn, List.length_cons, Nat.add_comm]
theorem digN_no {s : ByteArray} {k : Nat} (h : k < s.size) (hn : dig (s[k]'h) = false) : digN (s.data.toList.drop k) = 0 := by
  unfold digN
  rw [drop_cons s k h, List.takeWhile_cons, if_neg (by rw [hn]; decide)]; rfl
theorem digN_end {s : ByteArray} {k : Nat} (h : s.size ≤ k) : digN (s.data.toList.drop k) = 0 := by
  unfold digN
  rw [List.drop_of_length_le (by rw [size_list]; exact h)]; rfl
theorem dig_run : ∀ l : List UInt8, (l.take (Lx.runL l)).all dig = decide (digN l = Lx.runL l)
  | [] => rfl
  | c :: r => by
    have ih := dig_run r
    unfold Lx.runL digN at ih ⊢
    rw [List.takeWhile_cons, List.takeWhile_cons]
    cases hd : dig c with
    | true =>
      rw [show Lx.nm c = true from by unfold Lx.nm; rw [hd]; simp, if_pos rfl, if_pos rfl, List.length_cons, List.length_cons, List.take_succ_cons, List.all_cons, hd, Bool.true_and, ih, decide_eq_decide]
      omega
    | false =>
      rw [show (if (false : Bool) = true then c :: r.takeWhile dig else []) = [] from rfl]
      cases hn : Lx.nm c with
      | true => rw [if_pos rfl, List.length_cons, List.take_succ_cons, List.all_cons, hd, Bool.false_and]; symm; rw [decide_eq_false_iff_not, List.length_nil]; omega
      | false => rfl
theorem rfirst_cell (w : World) (cs : Array Value) (t : TypeId) (o : Obj) (i : Nat) : ((w.alloc (.cells cs t)).alloc o).cell? ⟨w.heap.size, i, none⟩ = cs[i]? :=
  (World.cell?_alloc_lt _ _ ⟨w.heap.size, i, none⟩ (by simp)).trans (one_cell w cs t i)
theorem rsecond_cell (w : World) (cs : Array Value) (t : TypeId) (o : Obj) (i : Nat) : ((w.alloc o).alloc (.cells cs t)).cell? ⟨w.heap.size + 1, i, none⟩ = cs[i]? := by
  have h := heap_alloc_new (w.alloc o) (.cells cs t)
  have e : (w.alloc o).heap.size = w.heap.size + 1 := by simp
  rw [e] at h
  exact cell_of_row _ _ i cs t (0, 0) h

set_option maxHeartbeats 8000000 in
set_option maxRecDepth 100000 in
theorem rtok_digit (s : ByteArray) (p : Nat) (w : World) (hs : s.size ≤ 70000) (h0 : p < s.size) (hl : Lx.isL (s[p]'h0) = false) (hd : dig (s[p]'h0) = true) :
    Calls Tryd.prog 109 #[.string s, .int .i64 p] w (RTok (Lx.tokL (s.data.toList.drop p)) p w) := by
  have hh := drop_cons s p h0
  have hrl := Lx.runL_le (s.data.toList.drop p)
  rw [List.length_drop, size_list] at hrl
  have hr1 : 1 ≤ Lx.runL (s.data.toList.drop p) := by
    rw [hh]; unfold Lx.runL; rw [List.takeWhile_cons, show Lx.nm (s[p]'h0) = true from by unfold Lx.nm; rw [hd]; simp]; simp
  have hdr := dig_run (s.data.toList.drop p)
  obtain ⟨c, hc⟩ : ∃ c, s[p]'h0 = c := ⟨_, rfl⟩
  have hR : Lx.tokL (s.data.toList.drop p) = (if ((s.data.toList.drop p).take (Lx.runL (s.data.toList.drop p))).all dig = false ∨ (c.toNat = 48 ∧ 1 < Lx.runL (s.data.toList.drop p)) ∨ 16 < Lx.runL (s.data.toList.drop p) ∨ 9007199254740991 < valL ((s.data.toList.drop p).take (Lx.runL (s.data.toList.drop p))) then .error 0
       else .ok ((3, [], Fl.W (valL ((s.data.toList.drop p).take (Lx.runL (s.data.toList.drop p))))), Lx.runL (s.data.toList.drop p))) := by
    conv => lhs; rw [hh]
    rw [Lx.tokL, if_neg (by rw [hl]; simp), if_pos hd, ← hh, hc]
  rw [hR]
  have q0 := Lib.hid (fun w' => refFirst_any (s[p]'h0) w')
  have q1 := Lib.hid (fun w' => refDigit_any (s[p]'h0) w')
  rw [hl, hc] at q0
  rw [hd, hc] at q1
  have qn := Lib.hid (fun w' => refNamed_any s p w' hs (by omega))
  have qd := Lib.hid (fun (x : UInt8) w' => refDigit_any x w')
  obtain ⟨E, hE⟩ : ∃ E, E = p + digN (s.data.toList.drop p) := ⟨_, rfl⟩
  have hEp : E = p + Lx.runL (s.data.toList.drop p) ↔ digN (s.data.toList.drop p) = Lx.runL (s.data.toList.drop p) := by omega
  generalize Lx.runL (s.data.toList.drop p) = n at *
  obtain ⟨T, hT⟩ : ∃ T, s.extract p (p + n) = T := ⟨_, rfl⟩
  have hTl : T.data.toList = (s.data.toList.drop p).take n := by rw [← hT, extract_len]
  have hTs : T.size = n := by rw [← size_list, hTl, List.length_take, List.length_drop, size_list]; omega
  have hTm : strOf T.data.toList = T := (strOf_inj rfl).symm
  rw [← hTl] at hdr ⊢
  have hp : (p : Int) < (s.size : Int) := by omega
  have hnl : (p : Int) + n ≤ s.size := by omega
  have hlt := c.toNat_lt
  have hE' := Lib.hid hE
  by_cases a1 : T.data.toList.all dig = true
  · have hEn : E = p + n := hEp.2 (by rw [a1] at hdr; exact of_decide_eq_true hdr.symm)
    subst hEn
    have hre := read_digits (l := T.data.toList) (by intro e; rw [← size_list, e] at hTs; simp at hTs; omega) a1
    rw [hTm] at hre
    have q3 := Lib.hid (fun w' => refRead_any T w' (by omega))
    rw [hre] at q3
    have hTx := Lib.hid hT
    by_cases a2 : c.toNat = 48 ∧ 1 < n
    · rw [if_pos (.inr (.inl a2))]
      have d1 : ((c.toNat : Int) == 48) = true := by simp; omega
      have d2 : (p : Int) + 1 < (p : Int) + n := by omega
      have d2' : 1 < (n : Int) := by omega
      clear a1 a2 hre hR hh hl hd hdr hTm hTs hTl hEp hE q3
      go_enter Tryd.func109, Tryd.ntmps109
      go_wp2_with fail
      refine (q0.out _).mono ?_; rintro e w' ⟨rfl, rfl⟩
      go_wp2_with fail
      refine (q1.out _).mono ?_; rintro e w' ⟨rfl, rfl⟩
      go_wp2_with fail
      go_loop [10] (fun i => ∃ j : Nat, p ≤ j ∧ j ≤ s.size ∧ i = .int .i64 j ∧ Hid ((p + n) = j + digN (s.data.toList.drop j))) (fun i => ((s.size : Int) - intOf i).toNat)
      case atStart => exact ⟨p, Nat.le_refl _, by omega, rfl, hE'⟩
      case round =>
        obtain ⟨j, hpj, hj, rfl, H⟩ := hrel
        by_cases cj : (j : Int) < s.size
        · obtain ⟨x, hx⟩ : ∃ x, s[j]'(by omega) = x := ⟨_, rfl⟩
          have q := Lib.hid (qd.out x)
          cases hxd : dig x
          · rw [hxd] at q
            obtain rfl : j = (p + n) := by have h := H.out; rw [digN_no (by omega) (by rw [hx]; exact hxd)] at h; omega
            clear hxd
            go_wp2_with fail
            refine (q.out _).mono ?_; rintro e w' ⟨rfl, rfl⟩
            go_wp2_with fail
            refine (qn.out _).mono ?_; rintro e w' ⟨rfl, rfl⟩
            go_wp2
            exact bodyPost_ret (v := .tuple #[tkA 0 0 ByteArray.empty 0, .int .i64 ((p + 0 : Nat) : Int), .bool false]) (by simp [results, Tryd.results109, go_sem]; rfl) rfl ⟨⟨_, _, _, _, rfl⟩, below_two⟩
          · rw [hxd] at q
            have hnx := Lib.hid (show (p + n) = (j + 1) + digN (s.data.toList.drop (j + 1)) from by rw [H.out, digN_go (by omega) (by rw [hx]; exact hxd)]; omega)
            clear hxd
            go_wp2_with fail
            refine (q.out _).mono ?_; rintro e w' ⟨rfl, rfl⟩
            go_wp2_with fail
            go_round
            case rel => exact ⟨j + 1, by omega, by omega, by go_num, hnx⟩
            case measure => simp [intOf]; omega
        · obtain rfl : j = (p + n) := by have h := H.out; rw [digN_end (by omega)] at h; omega
          go_wp2_with fail
          refine (qn.out _).mono ?_; rintro e w' ⟨rfl, rfl⟩
          go_wp2
          exact bodyPost_ret (v := .tuple #[tkA 0 0 ByteArray.empty 0, .int .i64 ((p + 0 : Nat) : Int), .bool false]) (by simp [results, Tryd.results109, go_sem]; rfl) rfl ⟨⟨_, _, _, _, rfl⟩, below_two⟩
    · by_cases a3 : 16 < n
      · rw [if_pos (.inr (.inr (.inl a3)))]
        have d3 : 16 < (n : Int) := by omega
        have d1 : ((c.toNat : Int) == 48) = false := by simp; omega
        clear a1 a2 a3 hre hR hh hl hd hdr hTm hTs hTl hEp hE q3
        go_enter Tryd.func109, Tryd.ntmps109
        go_wp2_with fail
        refine (q0.out _).mono ?_; rintro e w' ⟨rfl, rfl⟩
        go_wp2_with fail
        refine (q1.out _).mono ?_; rintro e w' ⟨rfl, rfl⟩
        go_wp2_with fail
        go_loop [10] (fun i => ∃ j : Nat, p ≤ j ∧ j ≤ s.size ∧ i = .int .i64 j ∧ Hid ((p + n) = j + digN (s.data.toList.drop j))) (fun i => ((s.size : Int) - intOf i).toNat)
        case atStart => exact ⟨p, Nat.le_refl _, by omega, rfl, hE'⟩
        case round =>
          obtain ⟨j, hpj, hj, rfl, H⟩ := hrel
          by_cases cj : (j : Int) < s.size
          · obtain ⟨x, hx⟩ : ∃ x, s[j]'(by omega) = x := ⟨_, rfl⟩
            have q := Lib.hid (qd.out x)
            cases hxd : dig x
            · rw [hxd] at q
              obtain rfl : j = (p + n) := by have h := H.out; rw [digN_no (by omega) (by rw [hx]; exact hxd)] at h; omega
              clear hxd
              go_wp2_with fail
              refine (q.out _).mono ?_; rintro e w' ⟨rfl, rfl⟩
              go_wp2_with fail
              refine (qn.out _).mono ?_; rintro e w' ⟨rfl, rfl⟩
              go_wp2
              exact bodyPost_ret (v := .tuple #[tkA 0 0 ByteArray.empty 0, .int .i64 ((p + 0 : Nat) : Int), .bool false]) (by simp [results, Tryd.results109, go_sem]; rfl) rfl ⟨⟨_, _, _, _, rfl⟩, below_two⟩
            · rw [hxd] at q
              have hnx := Lib.hid (show (p + n) = (j + 1) + digN (s.data.toList.drop (j + 1)) from by rw [H.out, digN_go (by omega) (by rw [hx]; exact hxd)]; omega)
              clear hxd
              go_wp2_with fail
              refine (q.out _).mono ?_; rintro e w' ⟨rfl, rfl⟩
              go_wp2_with fail
              go_round
              case rel => exact ⟨j + 1, by omega, by omega, by go_num, hnx⟩
              case measure => simp [intOf]; omega
          · obtain rfl : j = (p + n) := by have h := H.out; rw [digN_end (by omega)] at h; omega
            go_wp2_with fail
            refine (qn.out _).mono ?_; rintro e w' ⟨rfl, rfl⟩
            go_wp2
            exact bodyPost_ret (v := .tuple #[tkA 0 0 ByteArray.empty 0, .int .i64 ((p + 0 : Nat) : Int), .bool false]) (by simp [results, Tryd.results109, go_sem]; rfl) rfl ⟨⟨_, _, _, _, rfl⟩, below_two⟩
      · have d3 : ¬ 16 < (n : Int) := by omega
        by_cases a4 : 9007199254740991 < valL T.data.toList
        · rw [if_pos (.inr (.inr (.inr a4)))]
          rw [if_pos a4] at q3
          clear a1 a3 a4 hre hR hh hl hd hdr hTm hTs hTl hEp hE hT
          by_cases e48 : c.toNat = 48
          · have d1 : ((c.toNat : Int) == 48) = true := by simp; omega
            have d2 : ¬ (p : Int) + 1 < (p : Int) + n := by omega
            have d2' : ¬ 1 < (n : Int) := by omega
            clear e48 a2
            go_enter Tryd.func109, Tryd.ntmps109
            go_wp2_with fail
            refine (q0.out _).mono ?_; rintro e w' ⟨rfl, rfl⟩
            go_wp2_with fail
            refine (q1.out _).mono ?_; rintro e w' ⟨rfl, rfl⟩
            go_wp2_with fail
            go_loop [10] (fun i => ∃ j : Nat, p ≤ j ∧ j ≤ s.size ∧ i = .int .i64 j ∧ Hid ((p + n) = j + digN (s.data.toList.drop j))) (fun i => ((s.size : Int) - intOf i).toNat)
            case atStart => exact ⟨p, Nat.le_refl _, by omega, rfl, hE'⟩
            case round =>
              obtain ⟨j, hpj, hj, rfl, H⟩ := hrel
              by_cases cj : (j : Int) < s.size
              · obtain ⟨x, hx⟩ : ∃ x, s[j]'(by omega) = x := ⟨_, rfl⟩
                have q := Lib.hid (qd.out x)
                cases hxd : dig x
                · rw [hxd] at q
                  obtain rfl : j = (p + n) := by have h := H.out; rw [digN_no (by omega) (by rw [hx]; exact hxd)] at h; omega
                  clear hxd
                  go_wp2_with fail
                  refine (q.out _).mono ?_; rintro e w' ⟨rfl, rfl⟩
                  go_wp2_with fail
                  refine (qn.out _).mono ?_; rintro e w' ⟨rfl, rfl⟩
                  go_wp2_with fail
                  rw [hTx.out]
                  refine (q3.out _).mono ?_; rintro e w1 ⟨z, rfl, hzz, b1⟩
                  obtain ⟨hc1, hf1⟩ := bcell b1
                  have i0 : w1.cell? ⟨w.heap.size, 0, none⟩ = some (.int .u8 0) := (hc1 _ 0 (by simp <;> omega)).trans (rfirst_cell _ _ _ _ 0)
                  have i1 : w1.cell? ⟨w.heap.size, 1, none⟩ = some (.int .i64 0) := (hc1 _ 1 (by simp <;> omega)).trans (rfirst_cell _ _ _ _ 1)
                  have i2 : w1.cell? ⟨w.heap.size, 2, none⟩ = some (.string ByteArray.empty) := (hc1 _ 2 (by simp <;> omega)).trans (rfirst_cell _ _ _ _ 2)
                  have i3 : w1.cell? ⟨w.heap.size, 3, none⟩ = some (.float .f64 0) := (hc1 _ 3 (by simp <;> omega)).trans (rfirst_cell _ _ _ _ 3)
                  have j0 : w1.cell? ⟨w.heap.size + 1, 0, none⟩ = some (.int .u8 0) := (hc1 _ 0 (by simp)).trans (rsecond_cell _ _ _ _ 0)
                  have j1 : w1.cell? ⟨w.heap.size + 1, 1, none⟩ = some (.int .i64 p) := (hc1 _ 1 (by simp)).trans (rsecond_cell _ _ _ _ 1)
                  have j2 : w1.cell? ⟨w.heap.size + 1, 2, none⟩ = some (.string ByteArray.empty) := (hc1 _ 2 (by simp)).trans (rsecond_cell _ _ _ _ 2)
                  have j3 : w1.cell? ⟨w.heap.size + 1, 3, none⟩ = some (.float .f64 0) := (hc1 _ 3 (by simp)).trans (rsecond_cell _ _ _ _ 3)
                  have f0 : ∀ o, w1.frozen? ⟨w.heap.size, o, none⟩ = false := fun o => (hf1 _ o (by simp <;> omega)).trans (by simp [go_sem])
                  have f1 : ∀ o, w1.frozen? ⟨w.heap.size + 1, o, none⟩ = false := fun o => (hf1 _ o (by simp)).trans (by simp [go_sem])
                  have B1 := Lib.hid (below_three b1)
                  clear b1 hc1 hf1
                  clear hzz
                  go_wp2
                  exact rtok_end (n := ((p + 0 : Nat) : Int)) (store4_at ⟨i0, i1, i2, i3⟩ _ _ _ _) rfl rfl rfl rfl ⟨⟨_, _, _, _, rfl⟩, below_store4 B1.out (Nat.le_refl _) _ _ _ _⟩
                · rw [hxd] at q
                  have hnx := Lib.hid (show (p + n) = (j + 1) + digN (s.data.toList.drop (j + 1)) from by rw [H.out, digN_go (by omega) (by rw [hx]; exact hxd)]; omega)
                  clear hxd
                  go_wp2_with fail
                  refine (q.out _).mono ?_; rintro e w' ⟨rfl, rfl⟩
                  go_wp2_with fail
                  go_round
                  case rel => exact ⟨j + 1, by omega, by omega, by go_num, hnx⟩
                  case measure => simp [intOf]; omega
              · obtain rfl : j = (p + n) := by have h := H.out; rw [digN_end (by omega)] at h; omega
                go_wp2_with fail
                refine (qn.out _).mono ?_; rintro e w' ⟨rfl, rfl⟩
                go_wp2_with fail
                rw [hTx.out]
                refine (q3.out _).mono ?_; rintro e w1 ⟨z, rfl, hzz, b1⟩
                obtain ⟨hc1, hf1⟩ := bcell b1
                have i0 : w1.cell? ⟨w.heap.size, 0, none⟩ = some (.int .u8 0) := (hc1 _ 0 (by simp <;> omega)).trans (rfirst_cell _ _ _ _ 0)
                have i1 : w1.cell? ⟨w.heap.size, 1, none⟩ = some (.int .i64 0) := (hc1 _ 1 (by simp <;> omega)).trans (rfirst_cell _ _ _ _ 1)
                have i2 : w1.cell? ⟨w.heap.size, 2, none⟩ = some (.string ByteArray.empty) := (hc1 _ 2 (by simp <;> omega)).trans (rfirst_cell _ _ _ _ 2)
                have i3 : w1.cell? ⟨w.heap.size, 3, none⟩ = some (.float .f64 0) := (hc1 _ 3 (by simp <;> omega)).trans (rfirst_cell _ _ _ _ 3)
                have j0 : w1.cell? ⟨w.heap.size + 1, 0, none⟩ = some (.int .u8 0) := (hc1 _ 0 (by simp)).trans (rsecond_cell _ _ _ _ 0)
                have j1 : w1.cell? ⟨w.heap.size + 1, 1, none⟩ = some (.int .i64 p) := (hc1 _ 1 (by simp)).trans (rsecond_cell _ _ _ _ 1)
                have j2 : w1.cell? ⟨w.heap.size + 1, 2, none⟩ = some (.string ByteArray.empty) := (hc1 _ 2 (by simp)).trans (rsecond_cell _ _ _ _ 2)
                have j3 : w1.cell? ⟨w.heap.size + 1, 3, none⟩ = some (.float .f64 0) := (hc1 _ 3 (by simp)).trans (rsecond_cell _ _ _ _ 3)
                have f0 : ∀ o, w1.frozen? ⟨w.heap.size, o, none⟩ = false := fun o => (hf1 _ o (by simp <;> omega)).trans (by simp [go_sem])
                have f1 : ∀ o, w1.frozen? ⟨w.heap.size + 1, o, none⟩ = false := fun o => (hf1 _ o (by simp)).trans (by simp [go_sem])
                have B1 := Lib.hid (below_three b1)
                clear b1 hc1 hf1
                clear hzz
                go_wp2
                exact rtok_end (n := ((p + 0 : Nat) : Int)) (store4_at ⟨i0, i1, i2, i3⟩ _ _ _ _) rfl rfl rfl rfl ⟨⟨_, _, _, _, rfl⟩, below_store4 B1.out (Nat.le_refl _) _ _ _ _⟩
          · have d1 : ((c.toNat : Int) == 48) = false := by simp; omega
            clear e48 a2
            go_enter Tryd.func109, Tryd.ntmps109
            go_wp2_with fail
            refine (q0.out _).mono ?_; rintro e w' ⟨rfl, rfl⟩
            go_wp2_with fail
            refine (q1.out _).mono ?_; rintro e w' ⟨rfl, rfl⟩
            go_wp2_with fail
            go_loop [10] (fun i => ∃ j : Nat, p ≤ j ∧ j ≤ s.size ∧ i = .int .i64 j ∧ Hid ((p + n) = j + digN (s.data.toList.drop j))) (fun i => ((s.size : Int) - intOf i).toNat)
            case atStart => exact ⟨p, Nat.le_refl _, by omega, rfl, hE'⟩
            case round =>
              obtain ⟨j, hpj, hj, rfl, H⟩ := hrel
              by_cases cj : (j : Int) < s.size
              · obtain ⟨x, hx⟩ : ∃ x, s[j]'(by omega) = x := ⟨_, rfl⟩
                have q := Lib.hid (qd.out x)
                cases hxd : dig x
                · rw [hxd] at q
                  obtain rfl : j = (p + n) := by have h := H.out; rw [digN_no (by omega) (by rw [hx]; exact hxd)] at h; omega
                  clear hxd
                  go_wp2_with fail
                  refine (q.out _).mono ?_; rintro e w' ⟨rfl, rfl⟩
                  go_wp2_with fail
                  refine (qn.out _).mono ?_; rintro e w' ⟨rfl, rfl⟩
                  go_wp2_with fail
                  rw [hTx.out]
                  refine (q3.out _).mono ?_; rintro e w1 ⟨z, rfl, hzz, b1⟩
                  obtain ⟨hc1, hf1⟩ := bcell b1
                  have i0 : w1.cell? ⟨w.heap.size, 0, none⟩ = some (.int .u8 0) := (hc1 _ 0 (by simp <;> omega)).trans (rfirst_cell _ _ _ _ 0)
                  have i1 : w1.cell? ⟨w.heap.size, 1, none⟩ = some (.int .i64 0) := (hc1 _ 1 (by simp <;> omega)).trans (rfirst_cell _ _ _ _ 1)
                  have i2 : w1.cell? ⟨w.heap.size, 2, none⟩ = some (.string ByteArray.empty) := (hc1 _ 2 (by simp <;> omega)).trans (rfirst_cell _ _ _ _ 2)
                  have i3 : w1.cell? ⟨w.heap.size, 3, none⟩ = some (.float .f64 0) := (hc1 _ 3 (by simp <;> omega)).trans (rfirst_cell _ _ _ _ 3)
                  have j0 : w1.cell? ⟨w.heap.size + 1, 0, none⟩ = some (.int .u8 0) := (hc1 _ 0 (by simp)).trans (rsecond_cell _ _ _ _ 0)
                  have j1 : w1.cell? ⟨w.heap.size + 1, 1, none⟩ = some (.int .i64 p) := (hc1 _ 1 (by simp)).trans (rsecond_cell _ _ _ _ 1)
                  have j2 : w1.cell? ⟨w.heap.size + 1, 2, none⟩ = some (.string ByteArray.empty) := (hc1 _ 2 (by simp)).trans (rsecond_cell _ _ _ _ 2)
                  have j3 : w1.cell? ⟨w.heap.size + 1, 3, none⟩ = some (.float .f64 0) := (hc1 _ 3 (by simp)).trans (rsecond_cell _ _ _ _ 3)
                  have f0 : ∀ o, w1.frozen? ⟨w.heap.size, o, none⟩ = false := fun o => (hf1 _ o (by simp <;> omega)).trans (by simp [go_sem])
                  have f1 : ∀ o, w1.frozen? ⟨w.heap.size + 1, o, none⟩ = false := fun o => (hf1 _ o (by simp)).trans (by simp [go_sem])
                  have B1 := Lib.hid (below_three b1)
                  clear b1 hc1 hf1
                  clear hzz
                  go_wp2
                  exact rtok_end (n := ((p + 0 : Nat) : Int)) (store4_at ⟨i0, i1, i2, i3⟩ _ _ _ _) rfl rfl rfl rfl ⟨⟨_, _, _, _, rfl⟩, below_store4 B1.out (Nat.le_refl _) _ _ _ _⟩
                · rw [hxd] at q
                  have hnx := Lib.hid (show (p + n) = (j + 1) + digN (s.data.toList.drop (j + 1)) from by rw [H.out, digN_go (by omega) (by rw [hx]; exact hxd)]; omega)
                  clear hxd
                  go_wp2_with fail
                  refine (q.out _).mono ?_; rintro e w' ⟨rfl, rfl⟩
                  go_wp2_with fail
                  go_round
                  case rel => exact ⟨j + 1, by omega, by omega, by go_num, hnx⟩
                  case measure => simp [intOf]; omega
              · obtain rfl : j = (p + n) := by have h := H.out; rw [digN_end (by omega)] at h; omega
                go_wp2_with fail
                refine (qn.out _).mono ?_; rintro e w' ⟨rfl, rfl⟩
                go_wp2_with fail
                rw [hTx.out]
                refine (q3.out _).mono ?_; rintro e w1 ⟨z, rfl, hzz, b1⟩
                obtain ⟨hc1, hf1⟩ := bcell b1
                have i0 : w1.cell? ⟨w.heap.size, 0, none⟩ = some (.int .u8 0) := (hc1 _ 0 (by simp <;> omega)).trans (rfirst_cell _ _ _ _ 0)
                have i1 : w1.cell? ⟨w.heap.size, 1, none⟩ = some (.int .i64 0) := (hc1 _ 1 (by simp <;> omega)).trans (rfirst_cell _ _ _ _ 1)
                have i2 : w1.cell? ⟨w.heap.size, 2, none⟩ = some (.string ByteArray.empty) := (hc1 _ 2 (by simp <;> omega)).trans (rfirst_cell _ _ _ _ 2)
                have i3 : w1.cell? ⟨w.heap.size, 3, none⟩ = some (.float .f64 0) := (hc1 _ 3 (by simp <;> omega)).trans (rfirst_cell _ _ _ _ 3)
                have j0 : w1.cell? ⟨w.heap.size + 1, 0, none⟩ = some (.int .u8 0) := (hc1 _ 0 (by simp)).trans (rsecond_cell _ _ _ _ 0)
                have j1 : w1.cell? ⟨w.heap.size + 1, 1, none⟩ = some (.int .i64 p) := (hc1 _ 1 (by simp)).trans (rsecond_cell _ _ _ _ 1)
                have j2 : w1.cell? ⟨w.heap.size + 1, 2, none⟩ = some (.string ByteArray.empty) := (hc1 _ 2 (by simp)).trans (rsecond_cell _ _ _ _ 2)
                have j3 : w1.cell? ⟨w.heap.size + 1, 3, none⟩ = some (.float .f64 0) := (hc1 _ 3 (by simp)).trans (rsecond_cell _ _ _ _ 3)
                have f0 : ∀ o, w1.frozen? ⟨w.heap.size, o, none⟩ = false := fun o => (hf1 _ o (by simp <;> omega)).trans (by simp [go_sem])
                have f1 : ∀ o, w1.frozen? ⟨w.heap.size + 1, o, none⟩ = false := fun o => (hf1 _ o (by simp)).trans (by simp [go_sem])
                have B1 := Lib.hid (below_three b1)
                clear b1 hc1 hf1
                clear hzz
                go_wp2
                exact rtok_end (n := ((p + 0 : Nat) : Int)) (store4_at ⟨i0, i1, i2, i3⟩ _ _ _ _) rfl rfl rfl rfl ⟨⟨_, _, _, _, rfl⟩, below_store4 B1.out (Nat.le_refl _) _ _ _ _⟩
        · rw [if_neg (by rintro (h | h | h | h); exact (by rw [a1] at h; cases h); exact a2 h; exact a3 h; exact a4 h)]
          rw [if_neg a4] at q3
          have hvm : Fl.may (Fl.W (valL T.data.toList : Nat)) = true := by rw [Fl.may_W, decide_eq_true (by omega)]
          have qm := Lib.hid (fun w' => refMay_any (Fl.W (valL T.data.toList : Nat)) w' (Fl.W_lt (by omega)))
          rw [hvm] at qm
          generalize hvv : valL T.data.toList = v at *
          clear a1 a3 a4 hre hR hh hl hd hdr hTm hTs hTl hEp hE hT hvm hvv
          by_cases e48 : c.toNat = 48
          · have d1 : ((c.toNat : Int) == 48) = true := by simp; omega
            have d2 : ¬ (p : Int) + 1 < (p : Int) + n := by omega
            have d2' : ¬ 1 < (n : Int) := by omega
            clear e48 a2
            go_enter Tryd.func109, Tryd.ntmps109
            go_wp2_with fail
            refine (q0.out _).mono ?_; rintro e w' ⟨rfl, rfl⟩
            go_wp2_with fail
            refine (q1.out _).mono ?_; rintro e w' ⟨rfl, rfl⟩
            go_wp2_with fail
            go_loop [10] (fun i => ∃ j : Nat, p ≤ j ∧ j ≤ s.size ∧ i = .int .i64 j ∧ Hid ((p + n) = j + digN (s.data.toList.drop j))) (fun i => ((s.size : Int) - intOf i).toNat)
            case atStart => exact ⟨p, Nat.le_refl _, by omega, rfl, hE'⟩
            case round =>
              obtain ⟨j, hpj, hj, rfl, H⟩ := hrel
              by_cases cj : (j : Int) < s.size
              · obtain ⟨x, hx⟩ : ∃ x, s[j]'(by omega) = x := ⟨_, rfl⟩
                have q := Lib.hid (qd.out x)
                cases hxd : dig x
                · rw [hxd] at q
                  obtain rfl : j = (p + n) := by have h := H.out; rw [digN_no (by omega) (by rw [hx]; exact hxd)] at h; omega
                  clear hxd
                  go_wp2_with fail
                  refine (q.out _).mono ?_; rintro e w' ⟨rfl, rfl⟩
                  go_wp2_with fail
                  refine (qn.out _).mono ?_; rintro e w' ⟨rfl, rfl⟩
                  go_wp2_with fail
                  rw [hTx.out]
                  refine (q3.out _).mono ?_; rintro e w1 ⟨z, rfl, hzz, b1⟩
                  obtain ⟨hc1, hf1⟩ := bcell b1
                  have i0 : w1.cell? ⟨w.heap.size, 0, none⟩ = some (.int .u8 0) := (hc1 _ 0 (by simp <;> omega)).trans (rfirst_cell _ _ _ _ 0)
                  have i1 : w1.cell? ⟨w.heap.size, 1, none⟩ = some (.int .i64 0) := (hc1 _ 1 (by simp <;> omega)).trans (rfirst_cell _ _ _ _ 1)
                  have i2 : w1.cell? ⟨w.heap.size, 2, none⟩ = some (.string ByteArray.empty) := (hc1 _ 2 (by simp <;> omega)).trans (rfirst_cell _ _ _ _ 2)
                  have i3 : w1.cell? ⟨w.heap.size, 3, none⟩ = some (.float .f64 0) := (hc1 _ 3 (by simp <;> omega)).trans (rfirst_cell _ _ _ _ 3)
                  have j0 : w1.cell? ⟨w.heap.size + 1, 0, none⟩ = some (.int .u8 0) := (hc1 _ 0 (by simp)).trans (rsecond_cell _ _ _ _ 0)
                  have j1 : w1.cell? ⟨w.heap.size + 1, 1, none⟩ = some (.int .i64 p) := (hc1 _ 1 (by simp)).trans (rsecond_cell _ _ _ _ 1)
                  have j2 : w1.cell? ⟨w.heap.size + 1, 2, none⟩ = some (.string ByteArray.empty) := (hc1 _ 2 (by simp)).trans (rsecond_cell _ _ _ _ 2)
                  have j3 : w1.cell? ⟨w.heap.size + 1, 3, none⟩ = some (.float .f64 0) := (hc1 _ 3 (by simp)).trans (rsecond_cell _ _ _ _ 3)
                  have f0 : ∀ o, w1.frozen? ⟨w.heap.size, o, none⟩ = false := fun o => (hf1 _ o (by simp <;> omega)).trans (by simp [go_sem])
                  have f1 : ∀ o, w1.frozen? ⟨w.heap.size + 1, o, none⟩ = false := fun o => (hf1 _ o (by simp)).trans (by simp [go_sem])
                  have B1 := Lib.hid (below_three b1)
                  clear b1 hc1 hf1
                  obtain ⟨rfl, _⟩ := hzz
                  go_wp2_with fail
                  refine (qm.out _).mono ?_; rintro e w' ⟨rfl, rfl⟩
                  go_wp2
                  exact rtok_end (n := ((p + n : Nat) : Int)) (store4_at (four_oth (by omega) _ _ (four_oth (by omega) _ _ ⟨i0, i1, i2, i3⟩)) _ _ _ _) rfl rfl rfl rfl ⟨rfl, below_store4 ((B1.out.setCell (p := ⟨w.heap.size + 1, 0, none⟩) (by show _ ≤ w.heap.size + 1; omega) _).setCell (p := ⟨w.heap.size + 1, 3, none⟩) (by show _ ≤ w.heap.size + 1; omega) _) (Nat.le_refl _) _ _ _ _⟩
                · rw [hxd] at q
                  have hnx := Lib.hid (show (p + n) = (j + 1) + digN (s.data.toList.drop (j + 1)) from by rw [H.out, digN_go (by omega) (by rw [hx]; exact hxd)]; omega)
                  clear hxd
                  go_wp2_with fail
                  refine (q.out _).mono ?_; rintro e w' ⟨rfl, rfl⟩
                  go_wp2_with fail
                  go_round
                  case rel => exact ⟨j + 1, by omega, by omega, by go_num, hnx⟩
                  case measure => simp [intOf]; omega
              · obtain rfl : j = (p + n) := by have h := H.out; rw [digN_end (by omega)] at h; omega
                go_wp2_with fail
                refine (qn.out _).mono ?_; rintro e w' ⟨rfl, rfl⟩
                go_wp2_with fail
                rw [hTx.out]
                refine (q3.out _).mono ?_; rintro e w1 ⟨z, rfl, hzz, b1⟩
                obtain ⟨hc1, hf1⟩ := bcell b1
                have i0 : w1.cell? ⟨w.heap.size, 0, none⟩ = some (.int .u8 0) := (hc1 _ 0 (by simp <;> omega)).trans (rfirst_cell _ _ _ _ 0)
                have i1 : w1.cell? ⟨w.heap.size, 1, none⟩ = some (.int .i64 0) := (hc1 _ 1 (by simp <;> omega)).trans (rfirst_cell _ _ _ _ 1)
                have i2 : w1.cell? ⟨w.heap.size, 2, none⟩ = some (.string ByteArray.empty) := (hc1 _ 2 (by simp <;> omega)).trans (rfirst_cell _ _ _ _ 2)
                have i3 : w1.cell? ⟨w.heap.size, 3, none⟩ = some (.float .f64 0) := (hc1 _ 3 (by simp <;> omega)).trans (rfirst_cell _ _ _ _ 3)
                have j0 : w1.cell? ⟨w.heap.size + 1, 0, none⟩ = some (.int .u8 0) := (hc1 _ 0 (by simp)).trans (rsecond_cell _ _ _ _ 0)
                have j1 : w1.cell? ⟨w.heap.size + 1, 1, none⟩ = some (.int .i64 p) := (hc1 _ 1 (by simp)).trans (rsecond_cell _ _ _ _ 1)
                have j2 : w1.cell? ⟨w.heap.size + 1, 2, none⟩ = some (.string ByteArray.empty) := (hc1 _ 2 (by simp)).trans (rsecond_cell _ _ _ _ 2)
                have j3 : w1.cell? ⟨w.heap.size + 1, 3, none⟩ = some (.float .f64 0) := (hc1 _ 3 (by simp)).trans (rsecond_cell _ _ _ _ 3)
                have f0 : ∀ o, w1.frozen? ⟨w.heap.size, o, none⟩ = false := fun o => (hf1 _ o (by simp <;> omega)).trans (by simp [go_sem])
                have f1 : ∀ o, w1.frozen? ⟨w.heap.size + 1, o, none⟩ = false := fun o => (hf1 _ o (by simp)).trans (by simp [go_sem])
                have B1 := Lib.hid (below_three b1)
                clear b1 hc1 hf1
                obtain ⟨rfl, _⟩ := hzz
                go_wp2_with fail
                refine (qm.out _).mono ?_; rintro e w' ⟨rfl, rfl⟩
                go_wp2
                exact rtok_end (n := ((p + n : Nat) : Int)) (store4_at (four_oth (by omega) _ _ (four_oth (by omega) _ _ ⟨i0, i1, i2, i3⟩)) _ _ _ _) rfl rfl rfl rfl ⟨rfl, below_store4 ((B1.out.setCell (p := ⟨w.heap.size + 1, 0, none⟩) (by show _ ≤ w.heap.size + 1; omega) _).setCell (p := ⟨w.heap.size + 1, 3, none⟩) (by show _ ≤ w.heap.size + 1; omega) _) (Nat.le_refl _) _ _ _ _⟩
          · have d1 : ((c.toNat : Int) == 48) = false := by simp; omega
            clear e48 a2
            go_enter Tryd.func109, Tryd.ntmps109
            go_wp2_with fail
            refine (q0.out _).mono ?_; rintro e w' ⟨rfl, rfl⟩
            go_wp2_with fail
            refine (q1.out _).mono ?_; rintro e w' ⟨rfl, rfl⟩
            go_wp2_with fail
            go_loop [10] (fun i => ∃ j : Nat, p ≤ j ∧ j ≤ s.size ∧ i = .int .i64 j ∧ Hid ((p + n) = j + digN (s.data.toList.drop j))) (fun i => ((s.size : Int) - intOf i).toNat)
            case atStart => exact ⟨p, Nat.le_refl _, by omega, rfl, hE'⟩
            case round =>
              obtain ⟨j, hpj, hj, rfl, H⟩ := hrel
              by_cases cj : (j : Int) < s.size
              · obtain ⟨x, hx⟩ : ∃ x, s[j]'(by omega) = x := ⟨_, rfl⟩
                have q := Lib.hid (qd.out x)
                cases hxd : dig x
                · rw [hxd] at q
                  obtain rfl : j = (p + n) := by have h := H.out; rw [digN_no (by omega) (by rw [hx]; exact hxd)] at h; omega
                  clear hxd
                  go_wp2_with fail
                  refine (q.out _).mono ?_; rintro e w' ⟨rfl, rfl⟩
                  go_wp2_with fail
                  refine (qn.out _).mono ?_; rintro e w' ⟨rfl, rfl⟩
                  go_wp2_with fail
                  rw [hTx.out]
                  refine (q3.out _).mono ?_; rintro e w1 ⟨z, rfl, hzz, b1⟩
                  obtain ⟨hc1, hf1⟩ := bcell b1
                  have i0 : w1.cell? ⟨w.heap.size, 0, none⟩ = some (.int .u8 0) := (hc1 _ 0 (by simp <;> omega)).trans (rfirst_cell _ _ _ _ 0)
                  have i1 : w1.cell? ⟨w.heap.size, 1, none⟩ = some (.int .i64 0) := (hc1 _ 1 (by simp <;> omega)).trans (rfirst_cell _ _ _ _ 1)
                  have i2 : w1.cell? ⟨w.heap.size, 2, none⟩ = some (.string ByteArray.empty) := (hc1 _ 2 (by simp <;> omega)).trans (rfirst_cell _ _ _ _ 2)
                  have i3 : w1.cell? ⟨w.heap.size, 3, none⟩ = some (.float .f64 0) := (hc1 _ 3 (by simp <;> omega)).trans (rfirst_cell _ _ _ _ 3)
                  have j0 : w1.cell? ⟨w.heap.size + 1, 0, none⟩ = some (.int .u8 0) := (hc1 _ 0 (by simp)).trans (rsecond_cell _ _ _ _ 0)
                  have j1 : w1.cell? ⟨w.heap.size + 1, 1, none⟩ = some (.int .i64 p) := (hc1 _ 1 (by simp)).trans (rsecond_cell _ _ _ _ 1)
                  have j2 : w1.cell? ⟨w.heap.size + 1, 2, none⟩ = some (.string ByteArray.empty) := (hc1 _ 2 (by simp)).trans (rsecond_cell _ _ _ _ 2)
                  have j3 : w1.cell? ⟨w.heap.size + 1, 3, none⟩ = some (.float .f64 0) := (hc1 _ 3 (by simp)).trans (rsecond_cell _ _ _ _ 3)
                  have f0 : ∀ o, w1.frozen? ⟨w.heap.size, o, none⟩ = false := fun o => (hf1 _ o (by simp <;> omega)).trans (by simp [go_sem])
                  have f1 : ∀ o, w1.frozen? ⟨w.heap.size + 1, o, none⟩ = false := fun o => (hf1 _ o (by simp)).trans (by simp [go_sem])
                  have B1 := Lib.hid (below_three b1)
                  clear b1 hc1 hf1
                  obtain ⟨rfl, _⟩ := hzz
                  go_wp2_with fail
                  refine (qm.out _).mono ?_; rintro e w' ⟨rfl, rfl⟩
                  go_wp2
                  exact rtok_end (n := ((p + n : Nat) : Int)) (store4_at (four_oth (by omega) _ _ (four_oth (by omega) _ _ ⟨i0, i1, i2, i3⟩)) _ _ _ _) rfl rfl rfl rfl ⟨rfl, below_store4 ((B1.out.setCell (p := ⟨w.heap.size + 1, 0, none⟩) (by show _ ≤ w.heap.size + 1; omega) _).setCell (p := ⟨w.heap.size + 1, 3, none⟩) (by show _ ≤ w.heap.size + 1; omega) _) (Nat.le_refl _) _ _ _ _⟩
                · rw [hxd] at q
                  have hnx := Lib.hid (show (p + n) = (j + 1) + digN (s.data.toList.drop (j + 1)) from by rw [H.out, digN_go (by omega) (by rw [hx]; exact hxd)]; omega)
                  clear hxd
                  go_wp2_with fail
                  refine (q.out _).mono ?_; rintro e w' ⟨rfl, rfl⟩
                  go_wp2_with fail
                  go_round
                  case rel => exact ⟨j + 1, by omega, by omega, by go_num, hnx⟩
                  case measure => simp [intOf]; omega
              · obtain rfl : j = (p + n) := by have h := H.out; rw [digN_end (by omega)] at h; omega
                go_wp2_with fail
                refine (qn.out _).mono ?_; rintro e w' ⟨rfl, rfl⟩
                go_wp2_with fail
                rw [hTx.out]
                refine (q3.out _).mono ?_; rintro e w1 ⟨z, rfl, hzz, b1⟩
                obtain ⟨hc1, hf1⟩ := bcell b1
                have i0 : w1.cell? ⟨w.heap.size, 0, none⟩ = some (.int .u8 0) := (hc1 _ 0 (by simp <;> omega)).trans (rfirst_cell _ _ _ _ 0)
                have i1 : w1.cell? ⟨w.heap.size, 1, none⟩ = some (.int .i64 0) := (hc1 _ 1 (by simp <;> omega)).trans (rfirst_cell _ _ _ _ 1)
                have i2 : w1.cell? ⟨w.heap.size, 2, none⟩ = some (.string ByteArray.empty) := (hc1 _ 2 (by simp <;> omega)).trans (rfirst_cell _ _ _ _ 2)
                have i3 : w1.cell? ⟨w.heap.size, 3, none⟩ = some (.float .f64 0) := (hc1 _ 3 (by simp <;> omega)).trans (rfirst_cell _ _ _ _ 3)
                have j0 : w1.cell? ⟨w.heap.size + 1, 0, none⟩ = some (.int .u8 0) := (hc1 _ 0 (by simp)).trans (rsecond_cell _ _ _ _ 0)
                have j1 : w1.cell? ⟨w.heap.size + 1, 1, none⟩ = some (.int .i64 p) := (hc1 _ 1 (by simp)).trans (rsecond_cell _ _ _ _ 1)
                have j2 : w1.cell? ⟨w.heap.size + 1, 2, none⟩ = some (.string ByteArray.empty) := (hc1 _ 2 (by simp)).trans (rsecond_cell _ _ _ _ 2)
                have j3 : w1.cell? ⟨w.heap.size + 1, 3, none⟩ = some (.float .f64 0) := (hc1 _ 3 (by simp)).trans (rsecond_cell _ _ _ _ 3)
                have f0 : ∀ o, w1.frozen? ⟨w.heap.size, o, none⟩ = false := fun o => (hf1 _ o (by simp <;> omega)).trans (by simp [go_sem])
                have f1 : ∀ o, w1.frozen? ⟨w.heap.size + 1, o, none⟩ = false := fun o => (hf1 _ o (by simp)).trans (by simp [go_sem])
                have B1 := Lib.hid (below_three b1)
                clear b1 hc1 hf1
                obtain ⟨rfl, _⟩ := hzz
                go_wp2_with fail
                refine (qm.out _).mono ?_; rintro e w' ⟨rfl, rfl⟩
                go_wp2
                exact rtok_end (n := ((p + n : Nat) : Int)) (store4_at (four_oth (by omega) _ _ (four_oth (by omega) _ _ ⟨i0, i1, i2, i3⟩)) _ _ _ _) rfl rfl rfl rfl ⟨rfl, below_store4 ((B1.out.setCell (p := ⟨w.heap.size + 1, 0, none⟩) (by show _ ≤ w.heap.size + 1; omega) _).setCell (p := ⟨w.heap.size + 1, 3, none⟩) (by show _ ≤ w.heap.size + 1; omega) _) (Nat.le_refl _) _ _ _ _⟩
  · have a1' : T.data.toList.all dig = false := Bool.eq_false_iff.2 a1
    have hne : E ≠ p + n := fun h => by have := hEp.1 h; rw [a1', this] at hdr; simp at hdr
    have n1 : ¬ (p : Int) + n = (E : Int) := by omega
    have n2 : ((p : Int) + n == (E : Int)) = false := by rw [beq_eq_false_iff_ne]; exact n1
    rw [if_pos (.inl a1')]
    clear a1 a1' hne hR hh hl hd hdr hTm hTs hTl hEp hE hT
    go_enter Tryd.func109, Tryd.ntmps109
    go_wp2_with fail
    refine (q0.out _).mono ?_; rintro e w' ⟨rfl, rfl⟩
    go_wp2_with fail
    refine (q1.out _).mono ?_; rintro e w' ⟨rfl, rfl⟩
    go_wp2_with fail
    go_loop [10] (fun i => ∃ j : Nat, p ≤ j ∧ j ≤ s.size ∧ i = .int .i64 j ∧ Hid (E = j + digN (s.data.toList.drop j))) (fun i => ((s.size : Int) - intOf i).toNat)
    case atStart => exact ⟨p, Nat.le_refl _, by omega, rfl, hE'⟩
    case round =>
      obtain ⟨j, hpj, hj, rfl, H⟩ := hrel
      by_cases cj : (j : Int) < s.size
      · obtain ⟨x, hx⟩ : ∃ x, s[j]'(by omega) = x := ⟨_, rfl⟩
        have q := Lib.hid (qd.out x)
        cases hxd : dig x
        · rw [hxd] at q
          obtain rfl : j = E := by have h := H.out; rw [digN_no (by omega) (by rw [hx]; exact hxd)] at h; omega
          clear hxd
          go_wp2_with fail
          refine (q.out _).mono ?_; rintro e w' ⟨rfl, rfl⟩
          go_wp2_with fail
          refine (qn.out _).mono ?_; rintro e w' ⟨rfl, rfl⟩
          go_wp2
          exact bodyPost_ret (v := .tuple #[tkA 0 0 ByteArray.empty 0, .int .i64 ((p + 0 : Nat) : Int), .bool false]) (by simp [results, Tryd.results109, go_sem]; rfl) rfl ⟨⟨_, _, _, _, rfl⟩, below_two⟩
        · rw [hxd] at q
          have hnx := Lib.hid (show E = (j + 1) + digN (s.data.toList.drop (j + 1)) from by rw [H.out, digN_go (by omega) (by rw [hx]; exact hxd)]; omega)
          clear hxd
          go_wp2_with fail
          refine (q.out _).mono ?_; rintro e w' ⟨rfl, rfl⟩
          go_wp2_with fail
          go_round
          case rel => exact ⟨j + 1, by omega, by omega, by go_num, hnx⟩
          case measure => simp [intOf]; omega
      · obtain rfl : j = E := by have h := H.out; rw [digN_end (by omega)] at h; omega
        go_wp2_with fail
        refine (qn.out _).mono ?_; rintro e w' ⟨rfl, rfl⟩
        go_wp2
        exact bodyPost_ret (v := .tuple #[tkA 0 0 ByteArray.empty 0, .int .i64 ((p + 0 : Nat) : Int), .bool false]) (by simp [results, Tryd.results109, go_sem]; rfl) rfl ⟨⟨_, _, _, _, rfl⟩, below_two⟩
end Go.Proofs.YtajmdpndbfmdmaaDoor
