/-
  The walk of bailifflaw02.StrParts. Conditions: the cell of internal/bytealg.MaxLen holds a whole number.
-/
import Derived.Test.YtajmdpndbfmdmaaDoorPlaE
import Derived.Test.YtajmdpndbfmdmaaDoorStrA
namespace Go.Proofs.YtajmdpndbfmdmaaDoor
open Go Go.RowKit

theorem place_W {n m : Nat} (hn : n ≤ 70000) : Fl.placeS m (Fl.W n) = min m n := by
  have hn9 : ((n : Int)).natAbs < 9007199254740992 := by omega
  obtain ⟨h1, h2⟩ := Fl.W_nat_lt (n := n) (by omega)
  obtain ⟨r, e, hr, hk, _⟩ := Fl.rung_W (n := n) (by omega)
  have hk0 : ¬ Fl.key (Fl.W n) < 0 := by omega
  unfold Fl.placeS
  rw [h2]
  simp only [Bool.false_eq_true, if_false]
  rw [if_neg hk0]
  congr 1
  have hge : ∀ j : Nat, j < 9007199254740992 → (j ≤ Fl.tn (Fl.W n) ↔ j ≤ n) := by
    intro j hj
    rw [Fl.tn_ge h1 h2 hj]
    have hmod : (((Fl.W n) % 9223372036854775808 : Nat) : Int) = Fl.key (Fl.W n) := by
      unfold Fl.key at hk0 ⊢
      split at hk0 <;> omega
    rw [hmod]
    have := Fl.key_W_lt hn9 (b := (j : Int)) (by omega)
    omega
  have h3 := (hge n (by omega)).2 (Nat.le_refl _)
  have h4 := (hge (n + 1) (by omega)).1
  omega

theorem parts_facts (s : ByteArray) (n : Nat) (hs : s.size ≤ 3000) (hn : n ≤ s.size) :
    ∃ a b : ByteArray, partS s 0 (Fl.W n) = a ∧ partS s (Fl.W n) (Fl.W s.size) = b ∧ a.size = n ∧ joinS a b = (s, 0) ∧ a.size ≤ 9000 ∧ b.size ≤ 9000 := by
  have p0 : Fl.placeS s.size 0 = 0 := by
    have := place_W (n := 0) (m := s.size) (by omega)
    rw [show Fl.W ((0 : Nat) : Int) = 0 from Fl.W_zero] at this
    omega
  have p1 := place_W (n := n) (m := s.size) (by omega)
  have p2 := place_W (n := s.size) (m := s.size) (by omega)
  rw [show min s.size n = n from by omega] at p1
  rw [Nat.min_self] at p2
  have ea : (partS s 0 (Fl.W n)).data.toList = s.data.toList.take n := by
    unfold partS
    rw [p0, p1]
    by_cases h0 : n ≤ 0
    · rw [if_pos h0, show n = 0 from by omega]; rfl
    · rw [if_neg h0, Lib.extract_data]; rfl
  have eb : (partS s (Fl.W n) (Fl.W s.size)).data.toList = s.data.toList.drop n := by
    unfold partS
    rw [p1, p2]
    by_cases h0 : s.size ≤ n
    · rw [if_pos h0, List.drop_of_length_le (by rw [size_list]; omega)]; rfl
    · rw [if_neg h0, drop_ext]
  have sa : (partS s 0 (Fl.W n)).size = n := by rw [← size_list, ea, List.length_take, size_list]; omega
  have sb : (partS s (Fl.W n) (Fl.W s.size)).size = s.size - n := by rw [← size_list, eb, List.length_drop, size_list]
  refine ⟨_, _, rfl, rfl, sa, ?_, by omega, by omega⟩
  unfold joinS
  rw [if_neg (by omega)]
  congr 1
  have : (partS s 0 (Fl.W n) ++ partS s (Fl.W n) (Fl.W s.size)).data.toList = s.data.toList := by rw [append_list, ea, eb, List.take_append_drop]
  rw [strOf_inj this, strOf_data]

theorem bytes_total : ∀ (l m : List UInt8), (Op.bytesLess l m = true → Op.bytesLess m l = false) ∧ ((Op.bytesLess l m || Op.bytesLess m l) = (l != m))
  | [], [] => by simp [Op.bytesLess]
  | [], _ :: _ => by simp [Op.bytesLess]
  | _ :: _, [] => by simp [Op.bytesLess]
  | a :: l, b :: m => by
    obtain ⟨h1, h2⟩ := bytes_total l m
    simp only [Op.bytesLess]
    by_cases e : a = b
    · subst e
      have hlt : decide (a < a) = false := by simp
      rw [hlt]
      constructor
      · intro h; simp at h ⊢; exact h1 h
      · simp at h2 ⊢
        rw [h2]
        rw [Bool.eq_iff_iff]; simp
    · have e1 : (a == b) = false := by simpa using e
      have e2 : (b == a) = false := by simpa using fun h => e h.symm
      rw [e1, e2]
      have hne : a.toNat ≠ b.toNat := fun h => e (UInt8.toNat_inj.1 h)
      constructor
      · intro h
        simp [UInt8.lt_iff_toNat_lt] at h ⊢
        omega
      · have : (a :: l != b :: m) = true := by simp [e]
        rw [this]
        simp [UInt8.lt_iff_toNat_lt]
        omega

theorem less_facts (s t : ByteArray) : (lessV s t != lessV t s) = !(s.toList == t.toList) ∧ (lessV s t && lessV t s) = false := by
  obtain ⟨h1, h2⟩ := bytes_total s.data.toList t.data.toList
  rw [Lib.toList_data, Lib.toList_data]
  unfold lessV
  generalize Op.bytesLess s.data.toList t.data.toList = p at h1 h2
  generalize Op.bytesLess t.data.toList s.data.toList = q at h1 h2
  rw [show (!(s.data.toList == t.data.toList)) = (s.data.toList != t.data.toList) from rfl, ← h2]
  cases p <;> cases q <;> simp at h1 ⊢

theorem less_ways {v7 v8 h : Bool} (l1 : (v7 != v8) = !h) (l2 : (v7 && v8) = false) : (v7 = true ∧ v8 = false ∧ h = false) ∨ (v7 = false ∧ v8 = true ∧ h = false) ∨ (v7 = false ∧ v8 = false ∧ h = true) := by
  cases v7 <;> cases v8 <;> cases h <;> simp at l1 l2 ⊢

theorem dw_id (p : UInt8 → Bool) (l : List UInt8) (h : ∀ x, l.head? = some x → p x = false) : l.dropWhile p = l := by
  cases l with
  | nil => rfl
  | cons a l => rw [List.dropWhile_cons, h a rfl]; rfl
theorem dw_head (p : UInt8 → Bool) : ∀ (l : List UInt8) x, (l.dropWhile p).head? = some x → p x = false
  | [], x, h => by cases h
  | a :: l, x, h => by
    rw [List.dropWhile_cons] at h
    cases hp : p a with
    | true => rw [hp] at h; exact dw_head p l x h
    | false => rw [hp] at h; injection h with h; rw [← h]; exact hp

theorem trim_twice (l cs : List UInt8) : Lib.trimS (Lib.trimS l cs) cs = Lib.trimS l cs := by
  have key : Lib.trimRightS (Lib.trimS l cs) cs = Lib.trimS l cs := by
    unfold Lib.trimS
    obtain ⟨t, ht⟩ := List.dropWhile_suffix (cs.contains ·) (l := Lib.trimRightS l cs)
    unfold Lib.trimLeftS
    generalize hy : List.dropWhile (fun x => cs.contains x) (Lib.trimRightS l cs) = y at ht ⊢
    unfold Lib.trimRightS at ht ⊢
    rw [dw_id _ y.reverse, List.reverse_reverse]
    intro x hx
    rw [List.head?_reverse] at hx
    have h2 : (t ++ y).getLast? = some x := by rw [List.getLast?_append, hx]; rfl
    rw [ht, List.getLast?_reverse] at h2
    exact dw_head _ _ x h2
  unfold Lib.trimS at key ⊢
  rw [key]
  unfold Lib.trimLeftS
  exact dw_id _ _ (dw_head _ _)
theorem trimV_twice (s : ByteArray) : trimV (trimV s) = trimV s := by
  unfold trimV
  rw [strOf_list, trim_twice]

/-- What is found. -/
theorem find_facts (s t : ByteArray) (n : Int) : (findS s t n = -1 ∧ (n ≤ 0 → t.size ≤ s.size → Lib.occAt s.data.toList t.data.toList 0 = false)) ∨
    ∃ k : Nat, findS s t n = k ∧ k + t.size ≤ s.size ∧ Lib.occAt s.data.toList t.data.toList k = true ∧ ((k : Int) < n → ¬ (k : Int) < s.size) ∧ (k ≠ 0 → n ≤ 0 → Lib.occAt s.data.toList t.data.toList 0 = false) := by
  have hc := clampS_le s n
  rcases Lib.index_spec (s.data.toList.drop (clampS s n)) t.data.toList with ⟨h1, h2⟩ | ⟨i, h1, h2, h3, h4⟩
  · refine .inl ⟨findS_lo (by rw [h1]; decide), fun hn _ => ?_⟩
    have c0 : clampS s n = 0 := by unfold clampS; split <;> (try split) <;> omega
    have := h2 0 (Nat.zero_le _)
    rw [c0] at this
    exact this
  · have hroom := Lib.index_room (s.data.toList.drop (clampS s n)) t.data.toList (by omega)
    rw [h1, List.length_drop, size_list, size_list] at hroom
    refine .inr ⟨clampS s n + i, by rw [findS_hi (by omega), h1]; omega, by omega, by rw [← occ_drop]; exact h3, fun hlt => ?_, fun hk hn => ?_⟩
    · unfold clampS at hlt ⊢
      split at hlt
      · omega
      · split at hlt
        · rename_i h5 h6; rw [if_neg h5, if_pos h6]; omega
        · omega
    · have c0 : clampS s n = 0 := by unfold clampS; split <;> (try split) <;> omega
      rw [c0] at h4 hk
      have := h4 0 (by omega)
      simpa [occ_drop] using this
set_option maxHeartbeats 4000000 in
set_option maxRecDepth 100000 in
theorem strParts_walk (s t : ByteArray) (i : Int) (_w0 : s.size ≤ maxLen) (_w1 : t.size ≤ maxLen) (w2 : (Lit.int .i64 i).wf = true)
    (w : World) (m : Int) (hm : w.cell? ⟨1, 0, none⟩ = some (.int .i64 m)) (hw : 1 < w.heap.size) :
    Calls Tryd.prog 5 #[.string s, .string t, .int .i64 i] w fun e w' => e = .returned (.bool true) ∧ Below w.heap.size w w' := by
  have hi : -9223372036854775808 ≤ i ∧ i ≤ 9223372036854775807 := by simpa [Lit.wf, IntKind.min, IntKind.max, IntKind.signed, IntKind.bits] using w2
  obtain ⟨hi0, hi1⟩ := hi
  clear w2
  have q0 := Lib.hid (alive_any w)
  by_cases c1 : 3000 < s.size
  · have d1 : 3000 < (s.size : Int) := by omega
    clear hm
    go_enter Tryd.func5, Tryd.ntmps5
    go_wp2_with fail
    refine q0.out.mono ?_; rintro e w1 ⟨rfl, b1⟩
    have B1 := Lib.hid b1
    clear b1
    go_wp2
    go_ret
    exact ⟨rfl, B1.out⟩
  · have d1 : ¬ 3000 < (s.size : Int) := by omega
    by_cases c2 : 3000 < t.size
    · have d2 : 3000 < (t.size : Int) := by omega
      clear hm
      go_enter Tryd.func5, Tryd.ntmps5
      go_wp2_with fail
      refine q0.out.mono ?_; rintro e w1 ⟨rfl, b1⟩
      have B1 := Lib.hid b1
      clear b1
      go_wp2
      go_ret
      exact ⟨rfl, B1.out⟩
    · have d2 : ¬ 3000 < (t.size : Int) := by omega
      have q5 := Lib.hid (fun w' hm' => find_any s t i m w' (by omega) hi0 hi1 hm')
      have q7 := Lib.hid (fun w' => less_str s t w')
      have q8 := Lib.hid (fun w' => less_str t s w')
      have q9 := Lib.hid (fun w' => trim_str s w' (by omega))
      have hts : (trimV s).size ≤ 70000 := by have := trimV_le s; omega
      have qa := Lib.hid (fun w' => trim_str (trimV s) w' hts)
      rw [trimV_twice] at qa
      obtain ⟨l1, l2⟩ := less_facts s t
      have hF := Lib.hid (find_facts s t i)
      generalize findS s t i = a at q5 hF
      generalize lessV s t = v7 at q7 l1 l2
      generalize lessV t s = v8 at q8 l1 l2
      generalize trimV s = v9 at q9 qa
      have hm' := Lib.hid hm
      have hX := Lib.hid (less_ways l1 l2)
      clear hm c1 c2 l1 l2 hts
      by_cases cA : 0 ≤ i ∧ i ≤ s.size
      · obtain ⟨cA1, cA2⟩ := cA
        obtain ⟨n, rfl⟩ := Int.eq_ofNat_of_zero_le (a := i) (by omega)
        obtain ⟨p1, p2, e1, e2, e3, e4, e5, e6⟩ := parts_facts s n (by omega) (by omega)
        have q1 := Lib.hid (fun w' => part_any s 0 (Fl.W n) w' (by omega) (by omega) (Fl.W_nat_lt (n := n) (by omega)).1)
        have q2 := Lib.hid (fun w' => part_any s (Fl.W n) (Fl.W s.size) w' (by omega) (Fl.W_nat_lt (n := n) (by omega)).1 (Fl.W_nat_lt (n := s.size) (by omega)).1)
        have q3 := Lib.hid (fun w' => join_any p1 p2 w' e5 e6)
        rw [e1] at q1
        rw [e2] at q2
        rw [e4] at q3
        have hW1 := Fl.floatOfInt_W (n : Int)
        have hW2 := Fl.floatOfInt_W (s.size : Int)
        have e3' : (p1.size : Int) = n := by omega
        generalize Fl.W n = X at hW1 q1 q2
        generalize Fl.W s.size = Y at hW2 q2
        clear e1 e2 e3 e4 e5 e6
        go_enter Tryd.func5, Tryd.ntmps5
        go_wp2_with fail
        refine q0.out.mono ?_; rintro e w1 ⟨rfl, b1⟩
        have B1 := Lib.hid b1
        clear b1
        have hm1 := Lib.hid ((B1.out.cell (p := ⟨1, 0, none⟩) hw).trans hm'.out)
        go_wp2_with fail
        refine (q1.out _).mono ?_; rintro e w' ⟨rfl, rfl⟩
        go_wp2_with fail
        refine (q2.out _).mono ?_; rintro e w' ⟨rfl, rfl⟩
        go_wp2_with fail
        refine (q3.out _).mono ?_; rintro e w' ⟨rfl, rfl⟩
        go_wp2_with fail
        refine (q5.out _ hm1.out).mono ?_; rintro e w' ⟨rfl, rfl⟩
        --TAIL--
        rcases hF.out with ⟨rfl, f1⟩ | ⟨k, rfl, f1, f2, f3, f4⟩
        · by_cases cN : (n : Int) ≤ 0
          · by_cases cT : (t.size : Int) ≤ s.size
            · have hp := f1 cN (by omega)
              rw [← occ_ext, Nat.zero_add] at hp
              clear f1
              go_wp2_with fail
              refine (q7.out _).mono ?_; rintro e w' ⟨rfl, rfl⟩
              go_wp2_with fail
              refine (q8.out _).mono ?_; rintro e w' ⟨rfl, rfl⟩
              go_wp2_with fail
              refine (q9.out _).mono ?_; rintro e w2 ⟨rfl, b2⟩
              have B2 := Lib.hid (B1.out.trans (b2.mono B1.out.size))
              clear b2
              rcases hX.out with ⟨rfl, rfl, hst⟩ | ⟨rfl, rfl, hst⟩ | ⟨rfl, rfl, hst⟩
              all_goals
                go_wp2_with fail
                refine (qa.out _).mono ?_; rintro e w3 ⟨rfl, b3⟩
                have B3 := Lib.hid (B2.out.trans (b3.mono B2.out.size))
                clear b3
                go_wp2
                go_ret
                exact ⟨by simp, B3.out⟩
            · clear f1
              go_wp2_with fail
              refine (q7.out _).mono ?_; rintro e w' ⟨rfl, rfl⟩
              go_wp2_with fail
              refine (q8.out _).mono ?_; rintro e w' ⟨rfl, rfl⟩
              go_wp2_with fail
              refine (q9.out _).mono ?_; rintro e w2 ⟨rfl, b2⟩
              have B2 := Lib.hid (B1.out.trans (b2.mono B1.out.size))
              clear b2
              rcases hX.out with ⟨rfl, rfl, hst⟩ | ⟨rfl, rfl, hst⟩ | ⟨rfl, rfl, hst⟩
              all_goals
                go_wp2_with fail
                refine (qa.out _).mono ?_; rintro e w3 ⟨rfl, b3⟩
                have B3 := Lib.hid (B2.out.trans (b3.mono B2.out.size))
                clear b3
                go_wp2
                go_ret
                exact ⟨by simp, B3.out⟩
          · clear f1
            go_wp2_with fail
            refine (q7.out _).mono ?_; rintro e w' ⟨rfl, rfl⟩
            go_wp2_with fail
            refine (q8.out _).mono ?_; rintro e w' ⟨rfl, rfl⟩
            go_wp2_with fail
            refine (q9.out _).mono ?_; rintro e w2 ⟨rfl, b2⟩
            have B2 := Lib.hid (B1.out.trans (b2.mono B1.out.size))
            clear b2
            rcases hX.out with ⟨rfl, rfl, hst⟩ | ⟨rfl, rfl, hst⟩ | ⟨rfl, rfl, hst⟩
            all_goals
              go_wp2_with fail
              refine (qa.out _).mono ?_; rintro e w3 ⟨rfl, b3⟩
              have B3 := Lib.hid (B2.out.trans (b3.mono B2.out.size))
              clear b3
              go_wp2
              go_ret
              exact ⟨by simp, B3.out⟩
        · have hs := f2
          rw [← occ_ext] at hs
          have f1' : (k : Int) + t.size ≤ s.size := by omega
          have cK : ¬ (k : Int) < (n : Int) := fun h => by have := f3 h; omega
          by_cases k0 : k = 0
          · subst k0
            rw [Nat.zero_add] at hs
            clear f2 f3 f4
            go_wp2_with fail
            refine (q7.out _).mono ?_; rintro e w' ⟨rfl, rfl⟩
            go_wp2_with fail
            refine (q8.out _).mono ?_; rintro e w' ⟨rfl, rfl⟩
            go_wp2_with fail
            refine (q9.out _).mono ?_; rintro e w2 ⟨rfl, b2⟩
            have B2 := Lib.hid (B1.out.trans (b2.mono B1.out.size))
            clear b2
            rcases hX.out with ⟨rfl, rfl, hst⟩ | ⟨rfl, rfl, hst⟩ | ⟨rfl, rfl, hst⟩
            all_goals
              go_wp2_with fail
              refine (qa.out _).mono ?_; rintro e w3 ⟨rfl, b3⟩
              have B3 := Lib.hid (B2.out.trans (b3.mono B2.out.size))
              clear b3
              go_wp2
              go_ret
              exact ⟨by simp, B3.out⟩
          · by_cases cN : (n : Int) ≤ 0
            · have hp := f4 k0 cN
              rw [← occ_ext, Nat.zero_add] at hp
              have cT : (t.size : Int) ≤ s.size := by omega
              clear f2 f3 f4
              go_wp2_with fail
              refine (q7.out _).mono ?_; rintro e w' ⟨rfl, rfl⟩
              go_wp2_with fail
              refine (q8.out _).mono ?_; rintro e w' ⟨rfl, rfl⟩
              go_wp2_with fail
              refine (q9.out _).mono ?_; rintro e w2 ⟨rfl, b2⟩
              have B2 := Lib.hid (B1.out.trans (b2.mono B1.out.size))
              clear b2
              rcases hX.out with ⟨rfl, rfl, hst⟩ | ⟨rfl, rfl, hst⟩ | ⟨rfl, rfl, hst⟩
              all_goals
                go_wp2_with fail
                refine (qa.out _).mono ?_; rintro e w3 ⟨rfl, b3⟩
                have B3 := Lib.hid (B2.out.trans (b3.mono B2.out.size))
                clear b3
                go_wp2
                go_ret
                exact ⟨by simp, B3.out⟩
            · clear f2 f3 f4
              go_wp2_with fail
              refine (q7.out _).mono ?_; rintro e w' ⟨rfl, rfl⟩
              go_wp2_with fail
              refine (q8.out _).mono ?_; rintro e w' ⟨rfl, rfl⟩
              go_wp2_with fail
              refine (q9.out _).mono ?_; rintro e w2 ⟨rfl, b2⟩
              have B2 := Lib.hid (B1.out.trans (b2.mono B1.out.size))
              clear b2
              rcases hX.out with ⟨rfl, rfl, hst⟩ | ⟨rfl, rfl, hst⟩ | ⟨rfl, rfl, hst⟩
              all_goals
                go_wp2_with fail
                refine (qa.out _).mono ?_; rintro e w3 ⟨rfl, b3⟩
                have B3 := Lib.hid (B2.out.trans (b3.mono B2.out.size))
                clear b3
                go_wp2
                go_ret
                exact ⟨by simp, B3.out⟩
      · by_cases cA1 : i < 0
        · have cA3 := cA1
          have cA2 : ¬ (0 ≤ i) := by omega
          clear cA
          go_enter Tryd.func5, Tryd.ntmps5
          go_wp2_with fail
          refine q0.out.mono ?_; rintro e w1 ⟨rfl, b1⟩
          have B1 := Lib.hid b1
          clear b1
          have hm1 := Lib.hid ((B1.out.cell (p := ⟨1, 0, none⟩) hw).trans hm'.out)
          go_wp2_with fail
          refine (q5.out _ hm1.out).mono ?_; rintro e w' ⟨rfl, rfl⟩
          rcases hF.out with ⟨rfl, f1⟩ | ⟨k, rfl, f1, f2, f3, f4⟩
          · have cN : i ≤ 0 := by omega
            by_cases cT : (t.size : Int) ≤ s.size
            · have hp := f1 cN (by omega)
              rw [← occ_ext, Nat.zero_add] at hp
              clear f1
              go_wp2_with fail
              refine (q7.out _).mono ?_; rintro e w' ⟨rfl, rfl⟩
              go_wp2_with fail
              refine (q8.out _).mono ?_; rintro e w' ⟨rfl, rfl⟩
              go_wp2_with fail
              refine (q9.out _).mono ?_; rintro e w2 ⟨rfl, b2⟩
              have B2 := Lib.hid (B1.out.trans (b2.mono B1.out.size))
              clear b2
              rcases hX.out with ⟨rfl, rfl, hst⟩ | ⟨rfl, rfl, hst⟩ | ⟨rfl, rfl, hst⟩
              all_goals
                go_wp2_with fail
                refine (qa.out _).mono ?_; rintro e w3 ⟨rfl, b3⟩
                have B3 := Lib.hid (B2.out.trans (b3.mono B2.out.size))
                clear b3
                go_wp2
                go_ret
                exact ⟨by simp, B3.out⟩
            · clear f1
              go_wp2_with fail
              refine (q7.out _).mono ?_; rintro e w' ⟨rfl, rfl⟩
              go_wp2_with fail
              refine (q8.out _).mono ?_; rintro e w' ⟨rfl, rfl⟩
              go_wp2_with fail
              refine (q9.out _).mono ?_; rintro e w2 ⟨rfl, b2⟩
              have B2 := Lib.hid (B1.out.trans (b2.mono B1.out.size))
              clear b2
              rcases hX.out with ⟨rfl, rfl, hst⟩ | ⟨rfl, rfl, hst⟩ | ⟨rfl, rfl, hst⟩
              all_goals
                go_wp2_with fail
                refine (qa.out _).mono ?_; rintro e w3 ⟨rfl, b3⟩
                have B3 := Lib.hid (B2.out.trans (b3.mono B2.out.size))
                clear b3
                go_wp2
                go_ret
                exact ⟨by simp, B3.out⟩
          · have hs := f2
            rw [← occ_ext] at hs
            have f1' : (k : Int) + t.size ≤ s.size := by omega
            have cK : ¬ (k : Int) < i := by omega
            have cN : i ≤ 0 := by omega
            by_cases k0 : k = 0
            · subst k0
              rw [Nat.zero_add] at hs
              clear f2 f3 f4
              go_wp2_with fail
              refine (q7.out _).mono ?_; rintro e w' ⟨rfl, rfl⟩
              go_wp2_with fail
              refine (q8.out _).mono ?_; rintro e w' ⟨rfl, rfl⟩
              go_wp2_with fail
              refine (q9.out _).mono ?_; rintro e w2 ⟨rfl, b2⟩
              have B2 := Lib.hid (B1.out.trans (b2.mono B1.out.size))
              clear b2
              rcases hX.out with ⟨rfl, rfl, hst⟩ | ⟨rfl, rfl, hst⟩ | ⟨rfl, rfl, hst⟩
              all_goals
                go_wp2_with fail
                refine (qa.out _).mono ?_; rintro e w3 ⟨rfl, b3⟩
                have B3 := Lib.hid (B2.out.trans (b3.mono B2.out.size))
                clear b3
                go_wp2
                go_ret
                exact ⟨by simp, B3.out⟩
            · have hp := f4 k0 cN
              rw [← occ_ext, Nat.zero_add] at hp
              have cT : (t.size : Int) ≤ s.size := by omega
              clear f2 f3 f4
              go_wp2_with fail
              refine (q7.out _).mono ?_; rintro e w' ⟨rfl, rfl⟩
              go_wp2_with fail
              refine (q8.out _).mono ?_; rintro e w' ⟨rfl, rfl⟩
              go_wp2_with fail
              refine (q9.out _).mono ?_; rintro e w2 ⟨rfl, b2⟩
              have B2 := Lib.hid (B1.out.trans (b2.mono B1.out.size))
              clear b2
              rcases hX.out with ⟨rfl, rfl, hst⟩ | ⟨rfl, rfl, hst⟩ | ⟨rfl, rfl, hst⟩
              all_goals
                go_wp2_with fail
                refine (qa.out _).mono ?_; rintro e w3 ⟨rfl, b3⟩
                have B3 := Lib.hid (B2.out.trans (b3.mono B2.out.size))
                clear b3
                go_wp2
                go_ret
                exact ⟨by simp, B3.out⟩
        · have cA4 := cA1
          have cA2 : 0 ≤ i := by omega
          have cA3 : ¬ i ≤ (s.size : Int) := by omega
          clear cA
          go_enter Tryd.func5, Tryd.ntmps5
          go_wp2_with fail
          refine q0.out.mono ?_; rintro e w1 ⟨rfl, b1⟩
          have B1 := Lib.hid b1
          clear b1
          have hm1 := Lib.hid ((B1.out.cell (p := ⟨1, 0, none⟩) hw).trans hm'.out)
          go_wp2_with fail
          refine (q5.out _ hm1.out).mono ?_; rintro e w' ⟨rfl, rfl⟩
          rcases hF.out with ⟨rfl, f1⟩ | ⟨k, rfl, f1, f2, f3, f4⟩
          · have cN : ¬ i ≤ 0 := by omega
            clear f1
            go_wp2_with fail
            refine (q7.out _).mono ?_; rintro e w' ⟨rfl, rfl⟩
            go_wp2_with fail
            refine (q8.out _).mono ?_; rintro e w' ⟨rfl, rfl⟩
            go_wp2_with fail
            refine (q9.out _).mono ?_; rintro e w2 ⟨rfl, b2⟩
            have B2 := Lib.hid (B1.out.trans (b2.mono B1.out.size))
            clear b2
            rcases hX.out with ⟨rfl, rfl, hst⟩ | ⟨rfl, rfl, hst⟩ | ⟨rfl, rfl, hst⟩
            all_goals
              go_wp2_with fail
              refine (qa.out _).mono ?_; rintro e w3 ⟨rfl, b3⟩
              have B3 := Lib.hid (B2.out.trans (b3.mono B2.out.size))
              clear b3
              go_wp2
              go_ret
              exact ⟨by simp, B3.out⟩
          · have hs := f2
            rw [← occ_ext] at hs
            have f1' : (k : Int) + t.size ≤ s.size := by omega
            have cK : (k : Int) < i := by omega
            have f3' := f3 cK
            have cN : ¬ i ≤ 0 := by omega
            by_cases k0 : k = 0
            · subst k0
              rw [Nat.zero_add] at hs
              clear f2 f3 f4
              go_wp2_with fail
              refine (q7.out _).mono ?_; rintro e w' ⟨rfl, rfl⟩
              go_wp2_with fail
              refine (q8.out _).mono ?_; rintro e w' ⟨rfl, rfl⟩
              go_wp2_with fail
              refine (q9.out _).mono ?_; rintro e w2 ⟨rfl, b2⟩
              have B2 := Lib.hid (B1.out.trans (b2.mono B1.out.size))
              clear b2
              rcases hX.out with ⟨rfl, rfl, hst⟩ | ⟨rfl, rfl, hst⟩ | ⟨rfl, rfl, hst⟩
              all_goals
                go_wp2_with fail
                refine (qa.out _).mono ?_; rintro e w3 ⟨rfl, b3⟩
                have B3 := Lib.hid (B2.out.trans (b3.mono B2.out.size))
                clear b3
                go_wp2
                go_ret
                exact ⟨by simp, B3.out⟩
            · clear f2 f3 f4
              go_wp2_with fail
              refine (q7.out _).mono ?_; rintro e w' ⟨rfl, rfl⟩
              go_wp2_with fail
              refine (q8.out _).mono ?_; rintro e w' ⟨rfl, rfl⟩
              go_wp2_with fail
              refine (q9.out _).mono ?_; rintro e w2 ⟨rfl, b2⟩
              have B2 := Lib.hid (B1.out.trans (b2.mono B1.out.size))
              clear b2
              rcases hX.out with ⟨rfl, rfl, hst⟩ | ⟨rfl, rfl, hst⟩ | ⟨rfl, rfl, hst⟩
              all_goals
                go_wp2_with fail
                refine (qa.out _).mono ?_; rintro e w3 ⟨rfl, b3⟩
                have B3 := Lib.hid (B2.out.trans (b3.mono B2.out.size))
                clear b3
                go_wp2
                go_ret
                exact ⟨by simp, B3.out⟩
end Go.Proofs.YtajmdpndbfmdmaaDoor
