/-
  bailiffref03's first, digit, named, among, Word and Sign return what the plain theory of tokens says. Conditions: texts of at most 70,000 bytes (named), rows of at most 1,000 (among).
-/
import Derived.Test.YtajmdpndbfmdmaaDoorLexA
import Derived.Test.YtajmdpndbfmdmaaDoorPl
namespace Go.Proofs.YtajmdpndbfmdmaaDoor
open Go Go.RowKit

theorem refDigit_any (c : UInt8) (w : World) :
    Calls Tryd.prog 145 #[.int .u8 c.toNat] w fun e w' => e = .returned (.bool (dig c)) ∧ w = w' := by
  have hlt := c.toNat_lt
  have hc : (0 ≤ c.toNat ∧ c.toNat ≤ 47) ∨ (48 ≤ c.toNat ∧ c.toNat ≤ 57) ∨ (58 ≤ c.toNat ∧ c.toNat ≤ 255) := by omega
  rcases hc with h | h | h
  · have hk : dig c = false := by unfold dig; simp; omega
    rw [hk]
    clear hk
    have g48 : ¬ 48 ≤ (c.toNat : Int) := by omega
    have l57 : (c.toNat : Int) ≤ 57 := by omega
    clear h
    go_enter Tryd.func145, Tryd.ntmps145
    go_wp2
    go_ret
    exact ⟨rfl, rfl⟩
  · have hk : dig c = true := by unfold dig; simp; omega
    rw [hk]
    clear hk
    have g48 : 48 ≤ (c.toNat : Int) := by omega
    have l57 : (c.toNat : Int) ≤ 57 := by omega
    clear h
    go_enter Tryd.func145, Tryd.ntmps145
    go_wp2
    go_ret
    exact ⟨rfl, rfl⟩
  · have hk : dig c = false := by unfold dig; simp; omega
    rw [hk]
    clear hk
    have g48 : 48 ≤ (c.toNat : Int) := by omega
    have l57 : ¬ (c.toNat : Int) ≤ 57 := by omega
    clear h
    go_enter Tryd.func145, Tryd.ntmps145
    go_wp2
    go_ret
    exact ⟨rfl, rfl⟩
theorem refFirst_any (c : UInt8) (w : World) :
    Calls Tryd.prog 143 #[.int .u8 c.toNat] w fun e w' => e = .returned (.bool (Lx.isL c)) ∧ w = w' := by
  have hlt := c.toNat_lt
  have hc : (0 ≤ c.toNat ∧ c.toNat ≤ 35) ∨ (36 ≤ c.toNat ∧ c.toNat ≤ 36) ∨ (37 ≤ c.toNat ∧ c.toNat ≤ 64) ∨ (65 ≤ c.toNat ∧ c.toNat ≤ 90) ∨ (91 ≤ c.toNat ∧ c.toNat ≤ 94) ∨ (95 ≤ c.toNat ∧ c.toNat ≤ 95) ∨ (96 ≤ c.toNat ∧ c.toNat ≤ 96) ∨ (97 ≤ c.toNat ∧ c.toNat ≤ 122) ∨ (123 ≤ c.toNat ∧ c.toNat ≤ 255) := by omega
  rcases hc with h | h | h | h | h | h | h | h | h
  · have hk : Lx.isL c = false := by unfold Lx.isL; simp; omega
    rw [hk]
    clear hk
    have g97 : ¬ 97 ≤ (c.toNat : Int) := by omega
    have g65 : ¬ 65 ≤ (c.toNat : Int) := by omega
    have l122 : (c.toNat : Int) ≤ 122 := by omega
    have l90 : (c.toNat : Int) ≤ 90 := by omega
    have q95 : ((c.toNat : Int) == 95) = false := by simp; omega
    have q36 : ((c.toNat : Int) == 36) = false := by simp; omega
    clear h
    go_enter Tryd.func143, Tryd.ntmps143
    go_wp2
    go_ret
    exact ⟨rfl, rfl⟩
  · have hk : Lx.isL c = true := by unfold Lx.isL; simp; omega
    rw [hk]
    clear hk
    have g97 : ¬ 97 ≤ (c.toNat : Int) := by omega
    have g65 : ¬ 65 ≤ (c.toNat : Int) := by omega
    have l122 : (c.toNat : Int) ≤ 122 := by omega
    have l90 : (c.toNat : Int) ≤ 90 := by omega
    have q95 : ((c.toNat : Int) == 95) = false := by simp; omega
    have q36 : ((c.toNat : Int) == 36) = true := by simp; omega
    clear h
    go_enter Tryd.func143, Tryd.ntmps143
    go_wp2
    go_ret
    exact ⟨rfl, rfl⟩
  · have hk : Lx.isL c = false := by unfold Lx.isL; simp; omega
    rw [hk]
    clear hk
    have g97 : ¬ 97 ≤ (c.toNat : Int) := by omega
    have g65 : ¬ 65 ≤ (c.toNat : Int) := by omega
    have l122 : (c.toNat : Int) ≤ 122 := by omega
    have l90 : (c.toNat : Int) ≤ 90 := by omega
    have q95 : ((c.toNat : Int) == 95) = false := by simp; omega
    have q36 : ((c.toNat : Int) == 36) = false := by simp; omega
    clear h
    go_enter Tryd.func143, Tryd.ntmps143
    go_wp2
    go_ret
    exact ⟨rfl, rfl⟩
  · have hk : Lx.isL c = true := by unfold Lx.isL; simp; omega
    rw [hk]
    clear hk
    have g97 : ¬ 97 ≤ (c.toNat : Int) := by omega
    have g65 : 65 ≤ (c.toNat : Int) := by omega
    have l122 : (c.toNat : Int) ≤ 122 := by omega
    have l90 : (c.toNat : Int) ≤ 90 := by omega
    have q95 : ((c.toNat : Int) == 95) = false := by simp; omega
    have q36 : ((c.toNat : Int) == 36) = false := by simp; omega
    clear h
    go_enter Tryd.func143, Tryd.ntmps143
    go_wp2
    go_ret
    exact ⟨rfl, rfl⟩
  · have hk : Lx.isL c = false := by unfold Lx.isL; simp; omega
    rw [hk]
    clear hk
    have g97 : ¬ 97 ≤ (c.toNat : Int) := by omega
    have g65 : 65 ≤ (c.toNat : Int) := by omega
    have l122 : (c.toNat : Int) ≤ 122 := by omega
    have l90 : ¬ (c.toNat : Int) ≤ 90 := by omega
    have q95 : ((c.toNat : Int) == 95) = false := by simp; omega
    have q36 : ((c.toNat : Int) == 36) = false := by simp; omega
    clear h
    go_enter Tryd.func143, Tryd.ntmps143
    go_wp2
    go_ret
    exact ⟨rfl, rfl⟩
  · have hk : Lx.isL c = true := by unfold Lx.isL; simp; omega
    rw [hk]
    clear hk
    have g97 : ¬ 97 ≤ (c.toNat : Int) := by omega
    have g65 : 65 ≤ (c.toNat : Int) := by omega
    have l122 : (c.toNat : Int) ≤ 122 := by omega
    have l90 : ¬ (c.toNat : Int) ≤ 90 := by omega
    have q95 : ((c.toNat : Int) == 95) = true := by simp; omega
    have q36 : ((c.toNat : Int) == 36) = false := by simp; omega
    clear h
    go_enter Tryd.func143, Tryd.ntmps143
    go_wp2
    go_ret
    exact ⟨rfl, rfl⟩
  · have hk : Lx.isL c = false := by unfold Lx.isL; simp; omega
    rw [hk]
    clear hk
    have g97 : ¬ 97 ≤ (c.toNat : Int) := by omega
    have g65 : 65 ≤ (c.toNat : Int) := by omega
    have l122 : (c.toNat : Int) ≤ 122 := by omega
    have l90 : ¬ (c.toNat : Int) ≤ 90 := by omega
    have q95 : ((c.toNat : Int) == 95) = false := by simp; omega
    have q36 : ((c.toNat : Int) == 36) = false := by simp; omega
    clear h
    go_enter Tryd.func143, Tryd.ntmps143
    go_wp2
    go_ret
    exact ⟨rfl, rfl⟩
  · have hk : Lx.isL c = true := by unfold Lx.isL; simp; omega
    rw [hk]
    clear hk
    have g97 : 97 ≤ (c.toNat : Int) := by omega
    have g65 : 65 ≤ (c.toNat : Int) := by omega
    have l122 : (c.toNat : Int) ≤ 122 := by omega
    have l90 : ¬ (c.toNat : Int) ≤ 90 := by omega
    have q95 : ((c.toNat : Int) == 95) = false := by simp; omega
    have q36 : ((c.toNat : Int) == 36) = false := by simp; omega
    clear h
    go_enter Tryd.func143, Tryd.ntmps143
    go_wp2
    go_ret
    exact ⟨rfl, rfl⟩
  · have hk : Lx.isL c = false := by unfold Lx.isL; simp; omega
    rw [hk]
    clear hk
    have g97 : 97 ≤ (c.toNat : Int) := by omega
    have g65 : 65 ≤ (c.toNat : Int) := by omega
    have l122 : ¬ (c.toNat : Int) ≤ 122 := by omega
    have l90 : ¬ (c.toNat : Int) ≤ 90 := by omega
    have q95 : ((c.toNat : Int) == 95) = false := by simp; omega
    have q36 : ((c.toNat : Int) == 36) = false := by simp; omega
    clear h
    go_enter Tryd.func143, Tryd.ntmps143
    go_wp2
    go_ret
    exact ⟨rfl, rfl⟩

theorem runL_go {s : ByteArray} {k : Nat} (h : k < s.size) (hn : Lx.nm (s[k]'h) = true) : Lx.runL (s.data.toList.drop k) = 1 + Lx.runL (s.data.toList.drop (k + 1)) := by
  unfold Lx.runL
  rw [drop_cons s k h, List.takeWhile_cons, if_pos hn, List.length_cons, Nat.add_comm]
theorem runL_no {s : ByteArray} {k : Nat} (h : k < s.size) (hn : Lx.nm (s[k]'h) = false) : Lx.runL (s.data.toList.drop k) = 0 := by
  unfold Lx.runL
  rw [drop_cons s k h, List.takeWhile_cons, if_neg (by rw [hn]; decide)]; rfl
theorem runL_end {s : ByteArray} {k : Nat} (h : s.size ≤ k) : Lx.runL (s.data.toList.drop k) = 0 := by
  rw [List.drop_of_length_le (by rw [size_list]; exact h)]; rfl

set_option maxHeartbeats 1000000 in
theorem refNamed_any (s : ByteArray) (p : Nat) (w : World) (hs : s.size ≤ 70000) (hp : p ≤ s.size) :
    Calls Tryd.prog 144 #[.string s, .int .i64 p] w fun e w' => e = .returned (.int .i64 ((p + Lx.runL (s.data.toList.drop p) : Nat) : Int)) ∧ w = w' := by
  obtain ⟨R, hR⟩ : ∃ R, R = p + Lx.runL (s.data.toList.drop p) := ⟨_, rfl⟩
  rw [← hR]
  have hR' := Lib.hid hR
  clear hR
  go_enter Tryd.func144, Tryd.ntmps144
  go_wp2_with fail
  go_loop [1] (fun n => ∃ k : Nat, k ≤ s.size ∧ n = .int .i64 k ∧ Hid (R = k + Lx.runL (s.data.toList.drop k))) (fun n => ((s.size : Int) - intOf n).toNat)
  case atStart => exact ⟨p, by omega, rfl, hR'⟩
  case round =>
    obtain ⟨k, hk, rfl, H⟩ := hrel
    by_cases c : (k : Int) < s.size
    · obtain ⟨u, hu⟩ : ∃ u, s[k]'(by omega) = u := ⟨_, rfl⟩
      have q1 := Lib.hid (fun w' => refFirst_any u w')
      have q2 := Lib.hid (fun w' => refDigit_any u w')
      have hst := Lib.hid (fun (e : Lx.nm u = false) => show R = k from by rw [H.out, runL_no (by omega) (by rw [hu]; exact e), Nat.add_zero])
      have hgo := Lib.hid (fun (e : Lx.nm u = true) => show R = (k + 1) + Lx.runL (s.data.toList.drop (k + 1)) from by rw [H.out, runL_go (by omega) (by rw [hu]; exact e)]; omega)
      unfold Lx.nm at hst hgo
      by_cases c1 : Lx.isL u = true
      · rw [c1] at q1 hst hgo
        have g := Lib.hid (hgo.out (by simp))
        clear hgo hst c1
        go_wp2_with fail
        refine (q1.out _).mono ?_; rintro e w' ⟨rfl, rfl⟩
        go_wp2_with fail
        go_round
        case rel => exact ⟨k + 1, by omega, by go_num, g⟩
        case measure => simp [intOf]; omega
      · have c1' := Bool.eq_false_iff.2 c1
        rw [c1'] at q1 hst hgo
        by_cases c2 : dig u = true
        · rw [c2] at q2 hst hgo
          have g := Lib.hid (hgo.out (by simp))
          clear hgo hst c1 c1' c2
          go_wp2_with fail
          refine (q1.out _).mono ?_; rintro e w' ⟨rfl, rfl⟩
          go_wp2_with fail
          refine (q2.out _).mono ?_; rintro e w' ⟨rfl, rfl⟩
          go_wp2_with fail
          go_round
          case rel => exact ⟨k + 1, by omega, by go_num, g⟩
          case measure => simp [intOf]; omega
        · have c2' := Bool.eq_false_iff.2 c2
          rw [c2'] at q2 hst hgo
          have hr := Lib.hid (hst.out rfl)
          clear hgo hst c1 c1' c2 c2'
          go_wp2_with fail
          refine (q1.out _).mono ?_; rintro e w' ⟨rfl, rfl⟩
          go_wp2_with fail
          refine (q2.out _).mono ?_; rintro e w' ⟨rfl, rfl⟩
          go_wp2
          go_ret
          exact ⟨by rw [hr.out]; rfl, rfl⟩
    · have hr := Lib.hid (show R = k from by rw [H.out, runL_end (by omega), Nat.add_zero])
      go_wp2
      go_ret
      exact ⟨by rw [hr.out]; rfl, rfl⟩

theorem isPrefix_app : ∀ (a b l : List UInt8), (a ++ b).isPrefixOf l = (a.isPrefixOf l && b.isPrefixOf (l.drop a.length))
  | [], b, l => by simp
  | x :: a, b, [] => by simp [List.isPrefixOf]
  | x :: a, b, y :: l => by simp [List.isPrefixOf, isPrefix_app a b l, Bool.and_assoc]
/-- Does the text stand between blanks here? -/
def occB (row s : ByteArray) (k : Nat) : Bool := Lib.occAt row.data.toList (32 :: (s.data.toList ++ [32])) k
theorem byte_eq32 (u : UInt8) : ((32 : UInt8) == u) = ((u.toNat : Int) == 32) := by
  rw [Bool.eq_iff_iff, beq_iff_eq, beq_iff_eq]
  constructor
  · rintro rfl; rfl
  · intro h
    have h' : u.toNat = 32 := by omega
    rw [← UInt8.ofNat_toNat (x := u), h']; rfl
theorem occB_eq (row s : ByteArray) (k : Nat) (h : k + s.size + 2 ≤ row.size) :
    occB row s k = (((row[k]'(by omega)).toNat : Int) == 32 && ((row.extract (k + 1) (k + 1 + s.size)).toList == s.toList) && ((row[k + 1 + s.size]'(by omega)).toNat : Int) == 32) := by
  unfold occB Lib.occAt
  rw [drop_cons row k (by omega)]
  show ((32 : UInt8) == row[k]'(by omega) && (s.data.toList ++ [32]).isPrefixOf (row.data.toList.drop (k + 1))) = _
  rw [isPrefix_app, List.drop_drop, size_list, drop_cons row (k + 1 + s.size) (by omega), occ_ext]
  show (_ && (_ && ((32 : UInt8) == row[k + 1 + s.size]'(by omega) && true))) = _
  rw [byte_eq32, byte_eq32, Bool.and_true, Bool.and_assoc]
  rfl
theorem contains_yes {l t : List UInt8} {k : Nat} (h : Lib.occAt l t k = true) (hk : k ≤ l.length) : Lib.contains l t = true := by
  unfold Lib.contains
  rcases Lib.index_spec l t with ⟨_, h2⟩ | ⟨i, h1, _⟩
  · rw [h2 k hk] at h; cases h
  · rw [h1]; simp
theorem contains_no {l t : List UInt8} (h : ∀ j, j ≤ l.length → Lib.occAt l t j = false) : Lib.contains l t = false := by
  unfold Lib.contains
  rw [Lib.index_none h]; decide
theorem amongL_hit {row s : ByteArray} {k : Nat} (h0 : s.size ≠ 0) (hs : s.data.toList.contains 32 = false) (hk : k + s.size + 2 ≤ row.size) (ho : occB row s k = true) : Lx.amongL row.data.toList s.data.toList = true := by
  unfold Lx.amongL
  rw [Lx.contains_one, hs, contains_yes ho (by rw [size_list]; omega)]
  have hne : s.data.toList.isEmpty = false := by rw [Bool.eq_false_iff]; intro e; have := congrArg List.length (List.isEmpty_iff.1 e); rw [size_list] at this; exact h0 this
  rw [hne]; rfl
theorem amongL_miss0 {row s : ByteArray} {k : Nat} (hk : row.size < k + s.size + 2) (hn : ∀ j, j < k → occB row s j = false) : ∀ j, j ≤ row.data.toList.length → Lib.occAt row.data.toList (32 :: (s.data.toList ++ [32])) j = false := by
  intro j hj
  by_cases h : j < k
  · exact hn j h
  · cases ho : Lib.occAt row.data.toList (32 :: (s.data.toList ++ [32])) j with
    | false => rfl
    | true =>
      rcases Lib.occAt_room ho with h2 | h2
      · simp only [List.length_cons, List.length_append, size_list, List.length_nil] at h2; omega
      · cases h2
theorem amongL_miss {row s : ByteArray} {k : Nat} (hk : row.size < k + s.size + 2) (hn : ∀ j, j < k → occB row s j = false) : Lx.amongL row.data.toList s.data.toList = false := by
  unfold Lx.amongL
  have hc : Lib.contains row.data.toList (32 :: (s.data.toList ++ [32])) = false := contains_no (amongL_miss0 hk hn)
  rw [hc, Bool.and_false]
theorem amongL_blank {row s : ByteArray} (h : s.data.toList.contains 32 = true) : Lx.amongL row.data.toList s.data.toList = false := by
  unfold Lx.amongL; rw [Lx.contains_one, h, Bool.not_true, Bool.and_false, Bool.false_and]
theorem blank_at {s : ByteArray} {k : Nat} (h : k < s.size) (e : (s[k]'h).toNat = 32) : s.data.toList.contains 32 = true := by
  rw [List.contains_iff_mem]
  have e2 : s[k]'h = 32 := by rw [← UInt8.ofNat_toNat (x := s[k]'h), e]; rfl
  have : s.data.toList[k]? = some (s[k]'h) := get_list s k h
  rw [e2] at this
  exact List.mem_of_getElem? this
theorem blank_none {s : ByteArray} (h : ∀ j, (hj : j < s.size) → (s[j]'hj).toNat ≠ 32) : s.data.toList.contains 32 = false := by
  rw [Bool.eq_false_iff]
  intro e
  rw [List.contains_iff_mem] at e
  obtain ⟨j, hj⟩ := List.getElem?_of_mem e
  have hl : j < s.size := by have := (List.getElem?_eq_some_iff.1 hj).1; rwa [size_list] at this
  rw [get_list s j hl] at hj
  injection hj with hj
  exact h j hl (by rw [hj]; rfl)

set_option maxHeartbeats 2000000 in
theorem refAmong_any (row s : ByteArray) (w : World) (hr : row.size ≤ 1000) (hs : s.size ≤ 1000) :
    Calls Tryd.prog 111 #[.string row, .string s] w fun e w' => e = .returned (.bool (Lx.amongL row.data.toList s.data.toList)) ∧ w = w' := by
  have hmiss := Lib.hid (fun (k : Nat) => @amongL_miss row s k)
  have hbl := Lib.hid (@amongL_blank row s)
  by_cases c0 : s.size = 0
  · obtain rfl := empty_of c0
    have hres : Lx.amongL row.data.toList ByteArray.empty.data.toList = false := rfl
    rw [hres]
    clear hres c0 hmiss hbl
    go_enter Tryd.func111, Tryd.ntmps111
    go_wp2
    go_ret
    exact ⟨rfl, rfl⟩
  · have hhit := Lib.hid (fun (k : Nat) => @amongL_hit row s k c0)
    have he := isEmpty_of c0
    have hne : s.toList ≠ [] := by intro e; rw [e] at he; cases he
    generalize Lx.amongL row.data.toList s.data.toList = R at *
    go_enter Tryd.func111, Tryd.ntmps111
    go_wp2_with fail
    go_loop [5] (fun n => ∃ k : Nat, k ≤ s.size ∧ n = .int .i64 k ∧ Hid (∀ j, (hj : j < s.size) → j < k → (s[j]'hj).toNat ≠ 32)) (fun n => ((s.size : Int) - intOf n).toNat)
    case atStart => exact ⟨0, by omega, rfl, Lib.hid (fun j _ h => absurd h (by omega))⟩
    case round =>
      obtain ⟨k, hk, rfl, H⟩ := hrel
      by_cases c : (k : Int) < s.size
      · obtain ⟨u, hu⟩ : ∃ u, s[k]'(by omega) = u := ⟨_, rfl⟩
        by_cases c1 : u.toNat = 32
        · have d1 : ((u.toNat : Int) == 32) = true := by simp; omega
          have hr' := Lib.hid (hbl.out (blank_at (k := k) (by omega) (by rw [hu]; exact c1)))
          clear c1
          go_wp2
          go_ret
          exact ⟨by rw [hr'.out]; rfl, rfl⟩
        · have d1 : ((u.toNat : Int) == 32) = false := by simp; omega
          have g : Hid (∀ j, (hj : j < s.size) → j < k + 1 → (s[j]'hj).toNat ≠ 32) := Lib.hid (fun j hj h => by
            by_cases e : j = k
            · subst e; rw [hu]; exact c1
            · exact H.out j hj (by omega))
          clear c1
          go_wp2
          go_round
          case rel => exact ⟨k + 1, by omega, by go_num, g⟩
          case measure => simp [intOf]; omega
      · have hnb := Lib.hid (blank_none (s := s) (fun j hj => H.out j hj (by omega)))
        go_wp2_with fail
        go_loop [6] (fun n => ∃ k : Nat, k ≤ row.size + 1 ∧ n = .int .i64 k ∧ Hid (∀ j, j < k → occB row s j = false)) (fun n => ((row.size : Int) + 1 - intOf n).toNat)
        case atStart => exact ⟨0, by omega, rfl, Lib.hid (fun j h => absurd h (by omega))⟩
        case round =>
          obtain ⟨k, hk, rfl, H⟩ := hrel
          by_cases c : (k : Int) + s.size + 2 ≤ row.size
          · have hq := occB_eq row s k (by omega)
            obtain ⟨u, hu⟩ : ∃ u, row[k]'(by omega) = u := ⟨_, rfl⟩
            obtain ⟨z, hz⟩ : ∃ z, row[k + 1 + s.size]'(by omega) = z := ⟨_, rfl⟩
            rw [hu, hz] at hq
            have g : occB row s k = false → Hid (∀ j, j < k + 1 → occB row s j = false) := fun e => Lib.hid (fun j h => by
              by_cases e2 : j = k
              · rw [e2]; exact e
              · exact H.out j (by omega))
            have c2 : ¬ (row.size : Int) < (k : Int) + 1 + s.size := by omega
            cases d1 : ((u.toNat : Int) == 32)
            · rw [d1, Bool.false_and, Bool.false_and] at hq
              have g2 := g hq
              clear g hq
              go_wp2
              go_round
              case rel => exact ⟨k + 1, by omega, by go_num, g2⟩
              case measure => simp [intOf]; omega
            · cases d2 : ((row.extract (k + 1) (k + 1 + s.size)).toList == s.toList)
              · rw [d2, Bool.and_false, Bool.false_and] at hq
                have g2 := g hq
                clear g hq
                go_wp2
                go_round
                case rel => exact ⟨k + 1, by omega, by go_num, g2⟩
                case measure => simp [intOf]; omega
              · cases d3 : ((z.toNat : Int) == 32)
                · rw [d3, Bool.and_false] at hq
                  have g2 := g hq
                  clear g hq
                  go_wp2
                  go_round
                  case rel => exact ⟨k + 1, by omega, by go_num, g2⟩
                  case measure => simp [intOf]; omega
                · rw [d1, d2, d3] at hq
                  have hr' := Lib.hid (hhit.out k hnb.out (by omega) hq)
                  clear g hq
                  go_wp2
                  go_ret
                  exact ⟨by rw [hr'.out]; rfl, rfl⟩
          · have hr' := Lib.hid (hmiss.out k (by omega) H.out)
            go_wp2
            go_ret
            exact ⟨by rw [hr'.out]; rfl, rfl⟩

theorem refWord_any (s : ByteArray) (w : World) :
    Calls Tryd.prog 54 #[.string s] w fun e w' => e = .returned (.bool (Lx.wrd s.data.toList)) ∧ w = w' := by
  by_cases c : s.size < 20
  · have c' : (s.size : Int) < 20 := by omega
    have q := refAmong_any ⟨Lx.wordsRow.toArray⟩ s w (by decide +kernel) (by omega)
    have q' : Hid _ := Lib.hid q
    rw [show (⟨Lx.wordsRow.toArray⟩ : ByteArray).data.toList = Lx.wordsRow from rfl, Lx.among_words] at q'
    clear q c
    generalize Lx.wrd s.data.toList = V at q' ⊢
    go_enter Tryd.func54, Tryd.ntmps54
    go_wp2_with fail
    refine q'.out.mono ?_; rintro e w' ⟨rfl, rfl⟩
    go_wp2
    go_ret
    exact ⟨rfl, rfl⟩
  · have c' : ¬ (s.size : Int) < 20 := by omega
    have hV : Lx.wrd s.data.toList = false := by
      rw [Bool.eq_false_iff]; intro e
      have := (Lx.wrd_len _ e).1
      rw [size_list] at this; omega
    rw [hV]
    clear hV c
    go_enter Tryd.func54, Tryd.ntmps54
    go_wp2
    go_ret
    exact ⟨rfl, rfl⟩
theorem refSign_any (s : ByteArray) (w : World) :
    Calls Tryd.prog 56 #[.string s] w fun e w' => e = .returned (.bool (Lx.sgn s.data.toList)) ∧ w = w' := by
  by_cases c : s.size < 4
  · have c' : (s.size : Int) < 4 := by omega
    have q := refAmong_any ⟨Lx.signsRow.toArray⟩ s w (by decide +kernel) (by omega)
    have q' : Hid _ := Lib.hid q
    rw [show (⟨Lx.signsRow.toArray⟩ : ByteArray).data.toList = Lx.signsRow from rfl, Lx.among_signs] at q'
    clear q c
    generalize Lx.sgn s.data.toList = V at q' ⊢
    go_enter Tryd.func56, Tryd.ntmps56
    go_wp2_with fail
    refine q'.out.mono ?_; rintro e w' ⟨rfl, rfl⟩
    go_wp2
    go_ret
    exact ⟨rfl, rfl⟩
  · have c' : ¬ (s.size : Int) < 4 := by omega
    have hV : Lx.sgn s.data.toList = false := by
      rw [Bool.eq_false_iff]; intro e
      have := (Lx.sgn_len _ e).1
      rw [size_list] at this; omega
    rw [hV]
    clear hV c
    go_enter Tryd.func56, Tryd.ntmps56
    go_wp2
    go_ret
    exact ⟨rfl, rfl⟩
end Go.Proofs.YtajmdpndbfmdmaaDoor
