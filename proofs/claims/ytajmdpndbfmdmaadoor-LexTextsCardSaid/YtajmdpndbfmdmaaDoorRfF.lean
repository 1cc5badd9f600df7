/-
  bailiffref03.token at a letter, and at a sign. Conditions: a text of at most 70,000 bytes.
-/
import Derived.Test.YtajmdpndbfmdmaaDoorRfE
import Derived.Test.YtajmdpndbfmdmaaDoorLexD
namespace Go.Proofs.YtajmdpndbfmdmaaDoor
open Go Go.RowKit

/-- What the reference's token gives: places are the text's own. -/
def RTok (R : Except Nat (Lx.Tk × Nat)) (p : Nat) (w : World) (e : Ending) (w' : World) : Prop :=
  (match R with
  | .ok (t, n) => e = .returned (.tuple #[tkA t.1 p (strOf t.2.1) t.2.2, .int .i64 ((p + n : Nat) : Int), .bool true])
  | .error q => ∃ (k a : Int) (s : ByteArray) (x : Nat), e = .returned (.tuple #[tkA k a s x, .int .i64 ((p + q : Nat) : Int), .bool false])) ∧ Below w.heap.size w w'
theorem extract_len (s : ByteArray) (p n : Nat) : (s.extract p (p + n)).data.toList = (s.data.toList.drop p).take n := by
  rw [Lib.extract_data, Nat.add_sub_cancel_left]
theorem strOf_len (s : ByteArray) (p n : Nat) : strOf ((s.data.toList.drop p).take n) = s.extract p (p + n) := (strOf_inj (extract_len s p n)).symm

set_option maxHeartbeats 8000000 in
set_option maxRecDepth 100000 in
theorem rtok_letter (s : ByteArray) (p : Nat) (w : World) (hs : s.size ≤ 70000) (h0 : p < s.size) (hl : Lx.isL (s[p]'h0) = true) :
    Calls Tryd.prog 109 #[.string s, .int .i64 p] w (RTok (Lx.tokL (s.data.toList.drop p)) p w) := by
  have hh := drop_cons s p h0
  have hrl := Lx.runL_le (s.data.toList.drop p)
  rw [List.length_drop, size_list] at hrl
  have hR : Lx.tokL (s.data.toList.drop p) = (if 4096 < Lx.runL (s.data.toList.drop p) then .error 0 else .ok ((if Lx.wrd ((s.data.toList.drop p).take (Lx.runL (s.data.toList.drop p))) then 2 else 1, (s.data.toList.drop p).take (Lx.runL (s.data.toList.drop p)), 0), Lx.runL (s.data.toList.drop p))) := by
    conv => lhs; rw [hh]
    rw [Lx.tokL, if_pos hl, ← hh]
  rw [hR]
  have q0 := Lib.hid (fun w' => refFirst_any (s[p]'h0) w')
  rw [hl] at q0
  have q1 := Lib.hid (fun w' => refNamed_any s p w' hs (by omega))
  generalize Lx.runL (s.data.toList.drop p) = n at *
  have q2 := Lib.hid (fun w' => refWord_any (s.extract p (p + n)) w')
  rw [extract_len] at q2
  have hst := Lib.hid (strOf_len s p n)
  obtain ⟨c, hc⟩ : ∃ c, s[p]'h0 = c := ⟨_, rfl⟩
  rw [hc] at q0
  have hp : (p : Int) < (s.size : Int) := by omega
  have hnl : (p : Int) + n ≤ s.size := by omega
  have hnl2 : p + n ≤ s.size := by omega
  generalize hV : Lx.wrd ((s.data.toList.drop p).take n) = V at *
  clear hh hR hl hV
  by_cases h4 : 4096 < n
  · have h5 : 4096 < (n : Int) := by omega
    rw [if_pos h4]
    clear h4
    cases V
    · go_enter Tryd.func109, Tryd.ntmps109
      go_wp2_with fail
      refine (q0.out _).mono ?_; rintro e w' ⟨rfl, rfl⟩
      go_wp2_with fail
      refine (q1.out _).mono ?_; rintro e w' ⟨rfl, rfl⟩
      go_wp2_with fail
      refine (q2.out _).mono ?_; rintro e w' ⟨rfl, rfl⟩
      go_wp2
      exact bodyPost_ret (v := .tuple #[tkA 0 0 ByteArray.empty 0, .int .i64 ((p + 0 : Nat) : Int), .bool false]) (by simp [results, Tryd.results109, go_sem]; rfl) rfl ⟨⟨_, _, _, _, rfl⟩, below_two⟩
    · go_enter Tryd.func109, Tryd.ntmps109
      go_wp2_with fail
      refine (q0.out _).mono ?_; rintro e w' ⟨rfl, rfl⟩
      go_wp2_with fail
      refine (q1.out _).mono ?_; rintro e w' ⟨rfl, rfl⟩
      go_wp2_with fail
      refine (q2.out _).mono ?_; rintro e w' ⟨rfl, rfl⟩
      go_wp2
      exact bodyPost_ret (v := .tuple #[tkA 0 0 ByteArray.empty 0, .int .i64 ((p + 0 : Nat) : Int), .bool false]) (by simp [results, Tryd.results109, go_sem]; rfl) rfl ⟨⟨_, _, _, _, rfl⟩, below_two⟩
  · have h5 : ¬ 4096 < (n : Int) := by omega
    rw [if_neg h4]
    clear h4
    cases V
    · go_enter Tryd.func109, Tryd.ntmps109
      go_wp2_with fail
      refine (q0.out _).mono ?_; rintro e w' ⟨rfl, rfl⟩
      go_wp2_with fail
      refine (q1.out _).mono ?_; rintro e w' ⟨rfl, rfl⟩
      go_wp2_with fail
      refine (q2.out _).mono ?_; rintro e w' ⟨rfl, rfl⟩
      go_wp2
      exact bodyPost_ret (v := .tuple #[tkA 1 p (s.extract p (p + n)) 0, .int .i64 ((p + n : Nat) : Int), .bool true]) (by simp [results, Tryd.results109, go_sem]; rfl) rfl ⟨by simp [hst.out], below_two⟩
    · go_enter Tryd.func109, Tryd.ntmps109
      go_wp2_with fail
      refine (q0.out _).mono ?_; rintro e w' ⟨rfl, rfl⟩
      go_wp2_with fail
      refine (q1.out _).mono ?_; rintro e w' ⟨rfl, rfl⟩
      go_wp2_with fail
      refine (q2.out _).mono ?_; rintro e w' ⟨rfl, rfl⟩
      go_wp2
      exact bodyPost_ret (v := .tuple #[tkA 2 p (s.extract p (p + n)) 0, .int .i64 ((p + n : Nat) : Int), .bool true]) (by simp [results, Tryd.results109, go_sem]; rfl) rfl ⟨by simp [hst.out], below_two⟩

set_option maxHeartbeats 8000000 in
set_option maxRecDepth 100000 in
theorem rtok_sign (s : ByteArray) (p : Nat) (w : World) (hs : s.size ≤ 70000) (h0 : p < s.size) (hl : Lx.isL (s[p]'h0) = false) (hd : dig (s[p]'h0) = false) (hq : Lx.isQ (s[p]'h0) = false) :
    Calls Tryd.prog 109 #[.string s, .int .i64 p] w (RTok (Lx.tokL (s.data.toList.drop p)) p w) := by
  have hh := drop_cons s p h0
  have hR : Lx.tokL (s.data.toList.drop p) = (if Lx.signLen (s.data.toList.drop p) = 0 then .error 0 else .ok ((5, (s.data.toList.drop p).take (Lx.signLen (s.data.toList.drop p)), 0), Lx.signLen (s.data.toList.drop p))) := by
    conv => lhs; rw [hh]
    rw [Lx.tokL, if_neg (by rw [hl]; simp), if_neg (by rw [hd]; simp), if_neg (by rw [hq]; simp), ← hh]
  rw [hR]
  have q0 := Lib.hid (fun w' => refFirst_any (s[p]'h0) w')
  have q1 := Lib.hid (fun w' => refDigit_any (s[p]'h0) w')
  rw [hl] at q0
  rw [hd] at q1
  have qs := Lib.hid (fun (k : Nat) w' => refSign_any (s.extract p (p + k)) w')
  have hSL := Lib.hid (fun k (h : NoSign (s.data.toList.drop p) k) h3 (hk : p + k ≤ s.size) => signLen_of h h3 (by rw [List.length_drop, size_list]; omega))
  have hst := Lib.hid (strOf_len s p)
  obtain ⟨c, hc⟩ : ∃ c, s[p]'h0 = c := ⟨_, rfl⟩
  rw [hc] at q0 q1 hq
  have hlt := c.toNat_lt
  have g34 : ((c.toNat : Int) == 34) = false := by unfold Lx.isQ at hq; simp at hq ⊢; omega
  have g39 : ((c.toNat : Int) == 39) = false := by unfold Lx.isQ at hq; simp at hq ⊢; omega
  have hp : (p : Int) < (s.size : Int) := by omega
  generalize Lx.signLen (s.data.toList.drop p) = SL at *
  clear hh hR hl hd hq
  obtain ⟨R, hRR⟩ : ∃ R : Except Nat (Lx.Tk × Nat), R = (if SL = 0 then .error 0 else .ok ((5, (s.data.toList.drop p).take SL, 0), SL)) := ⟨_, rfl⟩
  rw [← hRR]
  have hRR' := Lib.hid hRR
  clear hRR
  have hno : Hid (NoSign (s.data.toList.drop p) 3) := Lib.hid (fun j h1 h2 h3 => by omega)
  go_enter Tryd.func109, Tryd.ntmps109
  go_wp2_with fail
  refine (q0.out _).mono ?_; rintro e w' ⟨rfl, rfl⟩
  go_wp2_with fail
  refine (q1.out _).mono ?_; rintro e w' ⟨rfl, rfl⟩
  go_wp2_with fail
  go_loop [17] (fun n => ∃ k : Nat, k ≤ 3 ∧ n = .int .i64 k ∧ Hid (NoSign (s.data.toList.drop p) k)) (fun n => (intOf n).toNat)
  case atStart => exact ⟨3, by omega, rfl, hno⟩
  case round =>
    obtain ⟨k, hk3, rfl, H⟩ := hrel
    by_cases hk : 0 < k
    · have hk' : 0 < (k : Int) := by omega
      have hc1 : ((k - 1 : Nat) : Int) = (k : Int) - 1 := by omega
      have hc2 := Lib.hid hc1
      clear hc1
      by_cases hin : p + k ≤ s.size
      · have hin' : (p : Int) + k ≤ s.size := by omega
        have q := Lib.hid (fun w' => qs.out k w')
        cases hV : Lx.sgn (s.extract p (p + k)).data.toList with
        | true =>
          have hr := Lib.hid (hSL.out k H.out hk3 hin (.inr (by rw [← extract_len]; exact hV)))
          rw [hV] at q
          clear hV
          go_wp2_with fail
          refine (q.out _).mono ?_; rintro e w' ⟨rfl, rfl⟩
          go_wp2
          exact bodyPost_ret (v := .tuple #[tkA 5 p (s.extract p (p + k)) 0, .int .i64 ((p + k : Nat) : Int), .bool true]) (by simp [results, Tryd.results109, go_sem]; rfl) rfl ⟨by rw [hRR'.out, hr.out, if_neg (by omega)]; show Ending.returned (.tuple #[tkA 5 p (s.extract p (p + k)) 0, .int .i64 ((p + k : Nat) : Int), .bool true]) = _; rw [hst.out]; rfl, below_two⟩
        | false =>
          have hg := Lib.hid (show NoSign (s.data.toList.drop p) (k - 1) from fun j h1 h2 h3 => by
            by_cases e : j = k
            · subst e; rw [← extract_len]; exact hV
            · exact H.out j (by omega) h2 h3)
          rw [hV] at q
          clear hV
          go_wp2_with fail
          refine (q.out _).mono ?_; rintro e w' ⟨rfl, rfl⟩
          go_wp2_with fail
          go_round
          case rel => exact ⟨k - 1, by omega, by rw [hc2.out], hg⟩
          case measure => simp [intOf]; omega
      · have hin' : ¬ (p : Int) + k ≤ s.size := by omega
        have hg := Lib.hid (show NoSign (s.data.toList.drop p) (k - 1) from fun j h1 h2 h3 => by
          rw [List.length_drop, size_list] at h3
          exact H.out j (by omega) h2 (by rw [List.length_drop, size_list]; exact h3))
        go_wp2_with fail
        go_round
        case rel => exact ⟨k - 1, by omega, by rw [hc2.out], hg⟩
        case measure => simp [intOf]; omega
    · obtain rfl : k = 0 := by omega
      have hr := Lib.hid (hSL.out 0 H.out (by omega) (by omega) (.inl rfl))
      go_wp2
      exact bodyPost_ret (v := .tuple #[tkA 0 0 ByteArray.empty 0, .int .i64 ((p + 0 : Nat) : Int), .bool false]) (by simp [results, Tryd.results109, go_sem]; rfl) rfl ⟨by rw [hRR'.out, hr.out, if_pos rfl]; exact ⟨_, _, _, _, rfl⟩, below_two⟩

end Go.Proofs.YtajmdpndbfmdmaaDoor
