/-
  bailiffref03.passed: the place behind blanks and comments. Conditions: a text of at most 70,000 bytes.
-/
import Derived.Test.YtajmdpndbfmdmaaDoorRfA
import Derived.Test.YtajmdpndbfmdmaaDoorLexI
namespace Go.Proofs.YtajmdpndbfmdmaaDoor
open Go Go.RowKit

/-- At this place stands no blank and no comment: a token, or what is wrong. -/
def Solid (s : ByteArray) (k : Nat) : Prop := k < s.size ∧ ∀ acc, Lx.stepL (s.data.toList.drop k, k, acc) = (match Lx.tokL (s.data.toList.drop k) with
  | .error p => .inl ([], k + p, 5)
  | .ok (t, n) => if acc.length = 16384 then .inl ([], k, 4) else .inr ((s.data.toList.drop k).drop n, k + n, acc ++ [(k, t)]))
/-- From p on nothing but blanks and comments up to k. -/
def Skips (s : ByteArray) (p k : Nat) : Prop := p ≤ k ∧ ∀ acc res, Lx.Ends (s.data.toList.drop k, k, acc) res → Lx.Ends (s.data.toList.drop p, p, acc) res
theorem Skips.refl (s : ByteArray) (p : Nat) : Skips s p p := ⟨Nat.le_refl _, fun _ _ h => h⟩
theorem Skips.step {s : ByteArray} {p k j : Nat} (h : Skips s p k) (hj : k ≤ j) (e : ∀ acc, Lx.stepL (s.data.toList.drop k, k, acc) = .inr (s.data.toList.drop j, j, acc)) : Skips s p j :=
  ⟨Nat.le_trans h.1 hj, fun acc res g => h.2 acc res (Lx.Ends.go (e acc) g)⟩
/-- What passed gives. -/
def PassOut (s : ByteArray) (p : Nat) (w : World) (e : Ending) (w' : World) : Prop :=
  w = w' ∧ ∃ (q : Nat) (ok : Bool), e = .returned (.tuple #[.int .i64 q, .bool ok]) ∧ q ≤ s.size ∧ Skips s p q ∧
    (ok = true → q = s.size ∨ Solid s q) ∧ (ok = false → ∀ acc, Lx.stepL (s.data.toList.drop q, q, acc) = .inl ([], q, 5))
/-- How many bytes up to the line's end. -/
def lineN (l : List UInt8) : Nat := (l.takeWhile (fun b => b != 10)).length
theorem lineN_go {s : ByteArray} {k : Nat} (h : k < s.size) (hn : (s[k]'h).toNat ≠ 10) : lineN (s.data.toList.drop k) = 1 + lineN (s.data.toList.drop (k + 1)) := by
  unfold lineN
  rw [drop_cons s k h, List.takeWhile_cons, if_pos (by rw [bne_iff_ne]; intro e; rw [e] at hn; exact hn rfl), List.length_cons, Nat.add_comm]
theorem lineN_no {s : ByteArray} {k : Nat} (h : k < s.size) (hn : (s[k]'h).toNat = 10) : lineN (s.data.toList.drop k) = 0 := by
  unfold lineN
  have e : s[k]'h = 10 := by rw [← UInt8.ofNat_toNat (x := s[k]'h), hn]; rfl
  rw [drop_cons s k h, List.takeWhile_cons, e]; rfl
theorem lineN_end {s : ByteArray} {k : Nat} (h : s.size ≤ k) : lineN (s.data.toList.drop k) = 0 := by
  unfold lineN
  rw [List.drop_of_length_le (by rw [size_list]; exact h)]; rfl
theorem byte_of {u : UInt8} {n : Nat} (h : u.toNat = n) : u = UInt8.ofNat n := by rw [← h, UInt8.ofNat_toNat]
theorem not_same {s : ByteArray} {k j : Nat} {a b : Nat} (hkj : k ≤ j) (hk : ∀ h : k < s.size, (s[k]'h).toNat = a) (hj : ∃ h : j < s.size, (s[j]'h).toNat = b) (hab : a ≠ b) : k < j := by
  rcases Nat.lt_or_ge k j with h | h
  · exact h
  · obtain rfl : j = k := by omega
    obtain ⟨h1, h2⟩ := hj
    exact absurd ((hk h1).symm.trans h2) hab
theorem blank_step {s : ByteArray} {k : Nat} (h : k < s.size) (hb : Lx.isB (s[k]'h) = true) : ∀ acc, Lx.stepL (s.data.toList.drop k, k, acc) = .inr (s.data.toList.drop (k + 1), k + 1, acc) := by
  intro acc
  rw [drop_cons s k h, Lx.stepL, if_pos hb]
theorem head_drop {s : ByteArray} {k : Nat} (h : k < s.size) : (s.data.toList.drop k).head? = some (s[k]'h) := by rw [drop_cons s k h]; rfl
theorem head_none {s : ByteArray} {k : Nat} (h : s.size ≤ k) : (s.data.toList.drop k).head? = none := by rw [List.drop_of_length_le (by rw [size_list]; exact h)]; rfl
theorem solid_any {s : ByteArray} {k : Nat} (h : k < s.size) (hb : Lx.isB (s[k]'h) = false) (hc : (s[k]'h).toNat = 47 → (s.data.toList.drop (k + 1)).head? ≠ some 47 ∧ (s.data.toList.drop (k + 1)).head? ≠ some 42) : Solid s k := by
  refine ⟨h, fun acc => ?_⟩
  rw [drop_cons s k h]
  rw [Lx.stepL, if_neg (by rw [hb]; decide), if_neg (fun g => (hc g.1).1 g.2), if_neg (fun g => (hc g.1).2 g.2)]
  cases Lx.tokL (s[k]'h :: s.data.toList.drop (k + 1)) <;> rfl
theorem line_step {s : ByteArray} {k : Nat} (h : k + 1 < s.size) (h1 : (s[k]'(by omega)).toNat = 47) (h2 : (s[k + 1]'h).toNat = 47) :
    ∀ acc, Lx.stepL (s.data.toList.drop k, k, acc) = .inr (s.data.toList.drop (k + lineN (s.data.toList.drop k)), k + lineN (s.data.toList.drop k), acc) := by
  intro acc
  have e1 := drop_cons s k (by omega)
  have hb : Lx.isB (s[k]'(by omega)) = false := by unfold Lx.isB; rw [h1]; decide
  have hh : (s.data.toList.drop (k + 1)).head? = some 47 := by rw [head_drop h, byte_of h2]; rfl
  conv => lhs; rw [e1]
  rw [Lx.stepL, if_neg (by rw [hb]; decide), if_pos ⟨h1, hh⟩, ← e1, Lx.dropWhile_drop, List.drop_drop]
  rfl
theorem long_bad {s : ByteArray} {k : Nat} (h : k + 1 < s.size) (h1 : (s[k]'(by omega)).toNat = 47) (h2 : (s[k + 1]'h).toNat = 42) (hn : ∀ j, k + 2 ≤ j → j + 1 < s.size → Lib.occAt s.data.toList [42, 47] j = false) :
    ∀ acc, Lx.stepL (s.data.toList.drop k, k, acc) = .inl ([], k, 5) := by
  intro acc
  have e1 := drop_cons s k (by omega)
  have hb : Lx.isB (s[k]'(by omega)) = false := by unfold Lx.isB; rw [h1]; decide
  have hh : (s.data.toList.drop (k + 1)).head? = some 42 := by rw [head_drop h, byte_of h2]; rfl
  have hi : Lib.index ((s.data.toList.drop (k + 1)).drop 1) [42, 47] < 0 := by
    rw [List.drop_drop, Lib.index_none (fun j hj => ?_)]
    · decide
    · rw [occ_drop]
      rw [List.length_drop, size_list] at hj
      by_cases c : k + 1 + 1 + j + 1 < s.size
      · exact hn _ (by omega) c
      · cases ho : Lib.occAt s.data.toList [42, 47] (k + 1 + 1 + j) with
        | false => rfl
        | true =>
          rcases Lib.occAt_room ho with h3 | h3
          · simp only [List.length_cons, List.length_nil, size_list] at h3; omega
          · cases h3
  rw [e1, Lx.stepL, if_neg (by rw [hb]; decide), if_neg (fun g => by rw [hh] at g; exact absurd g.2 (by decide)), if_pos ⟨h1, hh⟩, if_pos hi]
theorem long_step {s : ByteArray} {k j : Nat} (h : k + 1 < s.size) (h1 : (s[k]'(by omega)).toNat = 47) (h2 : (s[k + 1]'h).toNat = 42) (hj : k + 2 ≤ j) (hj2 : j + 1 < s.size) (ho : Lib.occAt s.data.toList [42, 47] j = true)
    (hn : ∀ i, k + 2 ≤ i → i < j → Lib.occAt s.data.toList [42, 47] i = false) :
    ∀ acc, Lx.stepL (s.data.toList.drop k, k, acc) = .inr (s.data.toList.drop (j + 2), j + 2, acc) := by
  intro acc
  have e1 := drop_cons s k (by omega)
  have hb : Lx.isB (s[k]'(by omega)) = false := by unfold Lx.isB; rw [h1]; decide
  have hh : (s.data.toList.drop (k + 1)).head? = some 42 := by rw [head_drop h, byte_of h2]; rfl
  have hi : Lib.index ((s.data.toList.drop (k + 1)).drop 1) [42, 47] = ((j - (k + 2) : Nat) : Int) := by
    rw [List.drop_drop]
    exact Lib.index_first (by rw [List.length_drop, size_list]; omega) (by rw [occ_drop, show k + 1 + 1 + (j - (k + 2)) = j from by omega]; exact ho) (fun i hi => by rw [occ_drop]; exact hn _ (by omega) (by omega))
  rw [e1, Lx.stepL, if_neg (by rw [hb]; decide), if_neg (fun g => by rw [hh] at g; exact absurd g.2 (by decide)), if_pos ⟨h1, hh⟩, hi, if_neg (by omega)]
  rw [Int.toNat_natCast, List.drop_drop, List.drop_drop]
  rw [show k + (j - (k + 2)) + 4 = j + 2 from by omega, show k + 1 + (1 + (j - (k + 2) + 2)) = j + 2 from by omega]
theorem occ_star {s : ByteArray} {j : Nat} (h : j + 1 < s.size) : Lib.occAt s.data.toList [42, 47] j = (decide ((s[j]'(by omega)).toNat = 42) && decide ((s[j + 1]'h).toNat = 47)) := by
  unfold Lib.occAt
  rw [drop_cons s j (by omega), drop_cons s (j + 1) h]
  show ((42 : UInt8) == s[j]'(by omega) && ((47 : UInt8) == s[j + 1]'h && true)) = _
  have e : ∀ (a : UInt8) (n : Nat), n < 256 → ((UInt8.ofNat n) == a) = decide (a.toNat = n) := by
    intro a n hn
    rw [Bool.eq_iff_iff, beq_iff_eq, decide_eq_true_eq]
    constructor
    · rintro rfl; simp [Nat.mod_eq_of_lt hn]
    · intro h; rw [← h, UInt8.ofNat_toNat]
  rw [Bool.and_true]
  have e1 := e (s[j]'(by omega)) 42 (by decide)
  have e2 := e (s[j + 1]'h) 47 (by decide)
  rw [show (42 : UInt8) = UInt8.ofNat 42 from rfl, show (47 : UInt8) = UInt8.ofNat 47 from rfl, e1, e2]

set_option maxHeartbeats 4000000 in
set_option maxRecDepth 100000 in
theorem refPassed_any (s : ByteArray) (p : Nat) (w : World) (hs : s.size ≤ 70000) (hp : p ≤ s.size) :
    Calls Tryd.prog 108 #[.string s, .int .i64 p] w (PassOut s p w) := by
  go_enter Tryd.func108, Tryd.ntmps108
  go_wp2_with fail
  go_loop [1] (fun n => ∃ k : Nat, k ≤ s.size ∧ n = .int .i64 k ∧ Hid (Skips s p k)) (fun n => ((s.size : Int) - intOf n).toNat)
  case atStart => exact ⟨p, by omega, rfl, Lib.hid (Skips.refl s p)⟩
  case round =>
    obtain ⟨k, hk, rfl, H⟩ := hrel
    by_cases c : (k : Int) < s.size
    · obtain ⟨u, hu⟩ : ∃ u, s[k]'(by omega) = u := ⟨_, rfl⟩
      have hlt := u.toNat_lt
      by_cases b32 : u.toNat = 32
      · have d32 : ((u.toNat : Int) == 32) = true := by simp; omega
        have hb : Hid (Skips s p (k + 1)) := Lib.hid (H.out.step (by omega) (blank_step (by omega) (by rw [hu]; unfold Lx.isB; simp; omega)))
        clear b32
        go_wp2_with fail
        go_round
        case rel => exact ⟨k + 1, by omega, by go_num, hb⟩
        case measure => simp [intOf]; omega
      · have d32 : ((u.toNat : Int) == 32) = false := by simp; omega
        by_cases b9 : u.toNat = 9
        · have d9 : ((u.toNat : Int) == 9) = true := by simp; omega
          have hb : Hid (Skips s p (k + 1)) := Lib.hid (H.out.step (by omega) (blank_step (by omega) (by rw [hu]; unfold Lx.isB; simp; omega)))
          clear b9
          go_wp2_with fail
          go_round
          case rel => exact ⟨k + 1, by omega, by go_num, hb⟩
          case measure => simp [intOf]; omega
        · have d9 : ((u.toNat : Int) == 9) = false := by simp; omega
          by_cases b10 : u.toNat = 10
          · have d10 : ((u.toNat : Int) == 10) = true := by simp; omega
            have hb : Hid (Skips s p (k + 1)) := Lib.hid (H.out.step (by omega) (blank_step (by omega) (by rw [hu]; unfold Lx.isB; simp; omega)))
            clear b10
            go_wp2_with fail
            go_round
            case rel => exact ⟨k + 1, by omega, by go_num, hb⟩
            case measure => simp [intOf]; omega
          · have d10 : ((u.toNat : Int) == 10) = false := by simp; omega
            by_cases b13 : u.toNat = 13
            · have d13 : ((u.toNat : Int) == 13) = true := by simp; omega
              have hb : Hid (Skips s p (k + 1)) := Lib.hid (H.out.step (by omega) (blank_step (by omega) (by rw [hu]; unfold Lx.isB; simp; omega)))
              clear b13
              go_wp2_with fail
              go_round
              case rel => exact ⟨k + 1, by omega, by go_num, hb⟩
              case measure => simp [intOf]; omega
            · have d13 : ((u.toNat : Int) == 13) = false := by simp; omega
              have hB : Lx.isB u = false := by unfold Lx.isB; simp; omega
              clear b32 b9 b10 b13
              by_cases b47 : u.toNat = 47
              · have d47 : ((u.toNat : Int) == 47) = true := by simp; omega
                by_cases c1 : (k : Int) + 1 < s.size
                · obtain ⟨v, hv⟩ : ∃ v, s[k + 1]'(by omega) = v := ⟨_, rfl⟩
                  have hvlt := v.toNat_lt
                  by_cases v47 : v.toNat = 47
                  · have e47 : ((v.toNat : Int) == 47) = true := by simp; omega
                    have hu47 := Lib.hid (show ∀ h : k < s.size, (s[k]'h).toNat = 47 from fun _ => by rw [hu]; exact b47)
                    obtain ⟨J, hJ⟩ : ∃ J, J = k + lineN (s.data.toList.drop k) := ⟨_, rfl⟩
                    have hJs := Lib.hid (fun (hkJ : k ≤ J) => show Skips s p J from H.out.step hkJ (by rw [hJ]; exact line_step (by omega) (by rw [hu]; exact b47) (by rw [hv]; exact v47)))
                    have hJ' := Lib.hid hJ
                    clear hJ v47 b47 hB
                    go_wp2_with fail
                    go_loop [1] (fun n => ∃ j : Nat, k ≤ j ∧ j ≤ s.size ∧ n = .int .i64 j ∧ Hid (J = j + lineN (s.data.toList.drop j))) (fun n => ((s.size : Int) - intOf n).toNat)
                    case atStart => exact ⟨k, by omega, by omega, rfl, hJ'⟩
                    case round =>
                      obtain ⟨j, hkj, hj, rfl, G⟩ := hrel
                      by_cases cj : (j : Int) < s.size
                      · obtain ⟨x, hx⟩ : ∃ x, s[j]'(by omega) = x := ⟨_, rfl⟩
                        by_cases x10 : x.toNat = 10
                        · have f10 : ((x.toNat : Int) == 10) = true := by simp; omega
                          have hend := Lib.hid (show Skips s p j from by
    have e : J = j := by rw [G.out, lineN_no (by omega) (by rw [hx]; exact x10), Nat.add_zero]
    rw [← e]; exact hJs.out (by omega))
                          have hkj2 := not_same (a := 47) (b := 10) hkj hu47.out ⟨by omega, by rw [hx]; exact x10⟩ (by decide)
                          clear x10
                          go_wp2_with fail
                          go_round
                          case rel => exact ⟨j, by omega, rfl, hend⟩
                          case measure => simp [intOf]; omega
                        · have f10 : ((x.toNat : Int) == 10) = false := by simp; omega
                          have hnext := Lib.hid (show J = (j + 1) + lineN (s.data.toList.drop (j + 1)) from by rw [G.out, lineN_go (by omega) (by rw [hx]; exact x10)]; omega)
                          clear x10
                          go_wp2_with fail
                          go_round
                          case rel => exact ⟨j + 1, by omega, by omega, by go_num, hnext⟩
                          case measure => simp [intOf]; omega
                      · have hend := Lib.hid (show Skips s p j from by
    have e : J = j := by rw [G.out, lineN_end (by omega), Nat.add_zero]
    rw [← e]; exact hJs.out (by omega))
                        go_wp2_with fail
                        go_round
                        case rel => exact ⟨j, by omega, rfl, hend⟩
                        case measure => simp [intOf]; omega
                  · have e47 : ((v.toNat : Int) == 47) = false := by simp; omega
                    by_cases v42 : v.toNat = 42
                    · have e42 : ((v.toNat : Int) == 42) = true := by simp; omega
                      have hbad := Lib.hid (long_bad (s := s) (k := k) (by omega) (by rw [hu]; exact b47) (by rw [hv]; exact v42))
                      have hgood := Lib.hid (fun (j : Nat) h1 h2 h3 h4 => show Skips s p (j + 2) from H.out.step (by omega) (long_step (s := s) (k := k) (j := j) (by omega) (by rw [hu]; exact b47) (by rw [hv]; exact v42) h1 h2 h3 h4))
                      clear v42 v47 b47 hB
                      go_wp2_with fail
                      go_loop [6] (fun n => ∃ j : Nat, k + 2 ≤ j ∧ j ≤ s.size ∧ n = .int .i64 j ∧ Hid (∀ i, k + 2 ≤ i → i < j → Lib.occAt s.data.toList [42, 47] i = false)) (fun n => ((s.size : Int) - intOf n).toNat)
                      case atStart => exact ⟨k + 2, by omega, by omega, by go_num, Lib.hid (fun i h1 h2 => absurd h1 (by omega))⟩
                      case round =>
                        obtain ⟨j, hkj, hj, rfl, G⟩ := hrel
                        by_cases cj : (j : Int) + 1 < s.size
                        · have hq := occ_star (s := s) (j := j) (by omega)
                          obtain ⟨x, hx⟩ : ∃ x, s[j]'(by omega) = x := ⟨_, rfl⟩
                          obtain ⟨y, hy⟩ : ∃ y, s[j + 1]'(by omega) = y := ⟨_, rfl⟩
                          rw [hx, hy] at hq
                          have cj2 : (j : Int) < s.size := by omega
                          have cj3 : ¬ (s.size : Int) ≤ (j : Int) + 1 := by omega
                          have hnext : Lib.occAt s.data.toList [42, 47] j = false → Hid (∀ i, k + 2 ≤ i → i < j + 1 → Lib.occAt s.data.toList [42, 47] i = false) := fun e => Lib.hid (fun i h1 h2 => by
    by_cases e2 : i = j
    · rw [e2]; exact e
    · exact G.out i h1 (by omega))
                          by_cases x42 : x.toNat = 42
                          · have f42 : ((x.toNat : Int) == 42) = true := by simp; omega
                            have g42 : (x.toNat : Int) = 42 := by omega
                            by_cases y47 : y.toNat = 47
                            · have f47 : ((y.toNat : Int) == 47) = true := by simp; omega
                              have hend := Lib.hid (hgood.out j hkj (by omega) (by rw [hq]; simp [x42, y47]) G.out)
                              clear hq hnext x42 y47
                              go_wp2_with fail
                              go_round
                              case rel => exact ⟨j + 2, by omega, by go_num, hend⟩
                              case measure => simp [intOf]; omega
                            · have f47 : ((y.toNat : Int) == 47) = false := by simp; omega
                              have hnx := hnext (by rw [hq]; simp [y47])
                              clear hq hnext x42 y47
                              go_wp2_with fail
                              go_round
                              case rel => exact ⟨j + 1, by omega, by omega, by go_num, hnx⟩
                              case measure => simp [intOf]; omega
                          · have f42 : ((x.toNat : Int) == 42) = false := by simp; omega
                            have hnx := hnext (by rw [hq]; simp [x42])
                            clear hq hnext x42
                            go_wp2_with fail
                            go_round
                            case rel => exact ⟨j + 1, by omega, by omega, by go_num, hnx⟩
                            case measure => simp [intOf]; omega
                        · have cj3 : (s.size : Int) ≤ (j : Int) + 1 := by omega
                          have hbb := Lib.hid (hbad.out (fun i h1 h2 => G.out i h1 (by omega)))
                          go_wp2_with fail
                          try rw [Exit.noGoto_ret]
                          go_ret2
                          exact ⟨rfl, k, false, rfl, by omega, H.out, (fun h => by cases h), fun _ => hbb.out⟩
                    · have e42 : ((v.toNat : Int) == 42) = false := by simp; omega
                      have hS := Lib.hid (solid_any (s := s) (k := k) (by omega) (by rw [hu]; exact hB) (fun _ => by rw [head_drop (by omega), hv]; exact ⟨fun e => v47 (by injection e with e; rw [e]; rfl), fun e => v42 (by injection e with e; rw [e]; rfl)⟩))
                      clear v42 v47 b47 hB
                      go_wp2_with fail
                      try rw [Exit.noGoto_ret]
                      go_ret2
                      exact ⟨rfl, k, true, rfl, by omega, H.out, fun _ => .inr hS.out, fun h => by cases h⟩
                · have hS := Lib.hid (solid_any (s := s) (k := k) (by omega) (by rw [hu]; exact hB) (fun _ => by rw [head_none (by omega)]; exact ⟨by simp, by simp⟩))
                  clear b47 hB
                  go_wp2_with fail
                  try rw [Exit.noGoto_ret]
                  go_ret2
                  exact ⟨rfl, k, true, rfl, by omega, H.out, fun _ => .inr hS.out, fun h => by cases h⟩
              · have d47 : ((u.toNat : Int) == 47) = false := by simp; omega
                have hS := Lib.hid (solid_any (s := s) (k := k) (by omega) (by rw [hu]; exact hB) (fun e => absurd (by rw [hu] at e; exact e) b47))
                clear b47 hB
                go_wp2_with fail
                try rw [Exit.noGoto_ret]
                go_ret2
                exact ⟨rfl, k, true, rfl, by omega, H.out, fun _ => .inr hS.out, fun h => by cases h⟩
    · obtain rfl : k = s.size := by omega
      go_wp2_with fail
      try rw [Exit.noGoto_ret]
      go_ret2
      exact ⟨rfl, s.size, true, rfl, by omega, H.out, fun _ => .inl (by omega), fun h => by cases h⟩
end Go.Proofs.YtajmdpndbfmdmaaDoor
