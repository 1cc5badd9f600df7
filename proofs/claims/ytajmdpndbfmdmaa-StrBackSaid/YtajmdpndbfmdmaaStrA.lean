/-
  str.Join, Repeat and the document's return the strings put together; the walk of bailifflaw02.StrMade. Conditions: strings of at most 9,000 bytes.
-/
import Derived.Test.YtajmdpndbfmdmaaBld
import Derived.LoopTactic
import Derived.Lib.Repeat
namespace Go.Proofs.Ytajmdpndbfmdmaa
open Go Go.RowKit

def joinS (a b : ByteArray) : ByteArray × Int := if a.size + b.size > 4096 then (ByteArray.empty, 20) else (a ++ b, 0)

theorem join_any (a b : ByteArray) (w : World) (ha : a.size ≤ 9000) (hb : b.size ≤ 9000) :
    Calls Try.prog 31 #[.string a, .string b] w fun e w' => e = .returned (.tuple #[.string (joinS a b).1, .int .i64 (joinS a b).2]) ∧ w = w' := by
  unfold joinS
  by_cases c : a.size + b.size > 4096
  · rw [if_pos c]
    go_enter Try.func31, Try.ntmps31
    go_wp2
    go_ret2
    exact ⟨rfl, rfl⟩
  · rw [if_neg c]
    go_enter Try.func31, Try.ntmps31
    go_wp2
    go_ret2
    exact ⟨rfl, rfl⟩

theorem refJoin_any (a b : ByteArray) (w : World) (ha : a.size ≤ 9000) (hb : b.size ≤ 9000) :
    Calls Try.prog 32 #[.string a, .string b] w fun e w' => e = .returned (.tuple #[.string (joinS a b).1, .int .i64 (joinS a b).2]) ∧ w = w' := by
  unfold joinS
  by_cases c : a.size + b.size > 4096
  · rw [if_pos c]
    go_enter Try.func32, Try.ntmps32
    go_wp2
    go_ret2
    exact ⟨rfl, rfl⟩
  · rw [if_neg c]
    go_enter Try.func32, Try.ntmps32
    go_wp2
    go_ret2
    exact ⟨rfl, rfl⟩

def strOf (l : List UInt8) : ByteArray := ⟨l.toArray⟩
theorem strOf_data (s : ByteArray) : strOf s.data.toList = s := rfl
theorem strOf_list (l : List UInt8) : (strOf l).data.toList = l := rfl
theorem strOf_inj {X : ByteArray} {l : List UInt8} (h : X.data.toList = l) : X = strOf l := by rw [← h, strOf_data]
theorem size_list (s : ByteArray) : s.data.toList.length = s.size := by simp
theorem append_list (a b : ByteArray) : (a ++ b).data.toList = a.data.toList ++ b.data.toList := by simp

def repeatS (s : ByteArray) (n : Int) : ByteArray × Int :=
  if n < 0 then (ByteArray.empty, 2) else if s.size = 0 then (ByteArray.empty, 0) else if n * s.size > 4096 then (ByteArray.empty, 20) else (strOf (Lib.repeatL s.data.toList n.toNat), 0)

theorem empty_of {s : ByteArray} (h : s.size = 0) : s = ByteArray.empty := by
  apply ByteArray.ext; apply Array.eq_empty_of_size_eq_zero; exact h
theorem isEmpty_of {s : ByteArray} (h : s.size ≠ 0) : s.toList.isEmpty = false := by
  rw [Lib.toList_data]
  cases h' : s.data.toList with
  | nil => exact absurd (by rw [← size_list, h']; rfl) h
  | cons => rfl

theorem repeat_any (s : ByteArray) (n : Int) (w : World) (hs : s.size ≤ 9000) (hn0 : -9223372036854775808 ≤ n) (hn1 : n ≤ 9223372036854775807) :
    Calls Try.prog 33 #[.string s, .int .i64 n] w fun e w' => e = .returned (.tuple #[.string (repeatS s n).1, .int .i64 (repeatS s n).2]) ∧ Below w.heap.size w w' := by
  unfold repeatS
  by_cases c1 : n < 0
  · rw [if_pos c1]
    go_enter Try.func33, Try.ntmps33
    go_wp2
    go_ret2
    exact ⟨rfl, Below.refl _ _⟩
  · rw [if_neg c1]
    by_cases c2 : s.size = 0
    · rw [if_pos c2]
      obtain rfl := empty_of c2
      clear c2
      go_enter Try.func33, Try.ntmps33
      go_wp2
      go_ret2
      exact ⟨rfl, Below.refl _ _⟩
    · rw [if_neg c2]
      have he := isEmpty_of c2
      have hp : 1 ≤ (s.size : Int) := by omega
      by_cases c3 : n * s.size > 4096
      · rw [if_pos c3]
        have h3 : 4096 / (s.size : Int) < n := Int.ediv_lt_of_lt_mul (by omega) c3
        clear c3 c2
        go_enter Try.func33, Try.ntmps33
        go_wp2
        go_ret2
        exact ⟨rfl, Below.refl _ _⟩
      · rw [if_neg c3]
        have h3 : ¬ 4096 / (s.size : Int) < n := by
          have := (Int.le_ediv_iff_mul_le (a := n) (b := 4096) (c := (s.size : Int)) (by omega)).2 (by omega)
          omega
        have hlen : s.size * n.toNat ≤ 140737488355328 := by
          have h4 : ((s.size * n.toNat : Nat) : Int) = n * s.size := by
            rw [Int.natCast_mul, Int.toNat_of_nonneg (by omega), Int.mul_comm]
          omega
        have hR := Try.strings_Repeat s n.toNat
        rw [Int.toNat_of_nonneg (by omega)] at hR
        have hR' := Lib.hid (fun w' => hR w' (by omega) hlen)
        clear hR c3 c2 hlen
        go_enter Try.func33, Try.ntmps33
        go_wp2_with (go_at_call 63; refine (hR'.out _).mono ?_; rintro e w' ⟨rfl, hb⟩)
        go_ret2
        exact ⟨rfl, hb⟩

theorem refRepeat_any (s : ByteArray) (n : Int) (w : World) (hs : s.size ≤ 9000) (hn0 : -9223372036854775808 ≤ n) (hn1 : n ≤ 9223372036854775807) :
    Calls Try.prog 34 #[.string s, .int .i64 n] w fun e w' => e = .returned (.tuple #[.string (repeatS s n).1, .int .i64 (repeatS s n).2]) ∧ w = w' := by
  unfold repeatS
  by_cases c1 : n < 0
  · rw [if_pos c1]
    go_enter Try.func34, Try.ntmps34
    go_wp2
    go_ret2
    exact ⟨rfl, rfl⟩
  · rw [if_neg c1]
    by_cases c2 : s.size = 0
    · rw [if_pos c2]
      obtain rfl := empty_of c2
      clear c2
      go_enter Try.func34, Try.ntmps34
      go_wp2
      go_ret2
      exact ⟨rfl, rfl⟩
    · rw [if_neg c2]
      have he := isEmpty_of c2
      obtain ⟨p, hp⟩ : ∃ p, p = (if n * s.size > 4096 then (ByteArray.empty, 20) else (strOf (Lib.repeatL s.data.toList n.toNat), 0) : ByteArray × Int) := ⟨_, rfl⟩
      rw [← hp]
      have hp' := Lib.hid hp
      have hs' := Lib.hid c2
      clear hp c2
      go_enter Try.func34, Try.ntmps34
      go_wp2
      go_loop [6, 7] (fun o i => ∃ (k : Nat) (X : ByteArray), (k : Int) ≤ n ∧ i = .int .i64 k ∧ o = .string X ∧ X.data.toList = Lib.repeatL s.data.toList k ∧ X.size ≤ 4096) (fun _ i => (n - intOf i).toNat)
      case atStart => exact ⟨0, ByteArray.empty, by omega, rfl, rfl, rfl, by decide⟩
      case round =>
        obtain ⟨k, X, hk, rfl, rfl, hX, hXs⟩ := hrel
        have hXn : X.size = k * s.size := by rw [← size_list, hX, Lib.repeatL_length, size_list]
        have hX' := Lib.hid hX
        have hXn' := Lib.hid hXn
        clear hX hXn
        by_cases c3 : (k : Int) < n
        · by_cases c4 : 4096 < X.size + s.size
          · have hfin : p = (ByteArray.empty, 20) := by
              rw [hp'.out, if_pos]
              have h5 : ((k + 1 : Nat) : Int) * s.size ≤ n * s.size := Int.mul_le_mul_of_nonneg_right (by omega) (by omega)
              have h6 : ((k + 1 : Nat) : Int) * s.size = ((k * s.size : Nat) : Int) + s.size := by rw [Int.natCast_mul, Int.natCast_add, Int.add_mul]; simp
              rw [← hXn'.out] at h6
              omega
            have hfin' := Lib.hid hfin
            clear hfin
            go_wp2
            go_ret2
            exact ⟨by rw [hfin'.out]; rfl, rfl⟩
          · go_wp2
            go_round
            case rel => exact ⟨k + 1, X ++ s, by omega, by go_num, rfl, by rw [append_list, hX'.out, Lib.repeatL_add, Lib.repeatL_one], by rw [ByteArray.size_append]; omega⟩
            case measure => simp [intOf]; omega
        · have hfin : p = (X, 0) := by
            have hkn : (k : Int) = n := by omega
            rw [hp'.out, if_neg, strOf_inj hX'.out, ← hkn]
            · rfl
            · rw [← hkn, ← Int.natCast_mul, ← hXn'.out]; omega
          have hfin' := Lib.hid hfin
          clear hfin
          go_wp2
          go_ret2
          exact ⟨by rw [hfin'.out]; rfl, rfl⟩

theorem strMade_walk (a b : ByteArray) (n : Int) (_w0 : a.size ≤ maxLen) (_w1 : b.size ≤ maxLen) (w2 : (Lit.int .i64 n).wf = true) (w : World) :
    Calls Try.prog 7 #[.string a, .string b, .int .i64 n] w fun e w' => e = .returned (.bool true) ∧ Below w.heap.size w w' := by
  have hn : -9223372036854775808 ≤ n ∧ n ≤ 9223372036854775807 := by simpa [Lit.wf, IntKind.min, IntKind.max, IntKind.signed, IntKind.bits] using w2
  obtain ⟨hn0, hn1⟩ := hn
  by_cases c1 : 9000 < a.size
  · go_enter Try.func7, Try.ntmps7
    go_wp2
    go_ret
    exact ⟨rfl, Below.refl _ _⟩
  · by_cases c2 : 9000 < b.size
    · go_enter Try.func7, Try.ntmps7
      go_wp2
      go_ret
      exact ⟨rfl, Below.refl _ _⟩
    · have q1 := Lib.hid (fun w' => join_any a b w' (by omega) (by omega))
      have q2 := Lib.hid (fun w' => refJoin_any a b w' (by omega) (by omega))
      have q3 := Lib.hid (fun w' => repeat_any a n w' (by omega) hn0 hn1)
      have q4 := Lib.hid (fun w' => refRepeat_any a n w' (by omega) hn0 hn1)
      generalize joinS a b = p at q1 q2
      generalize repeatS a n = r at q3 q4
      obtain ⟨p1, p2⟩ := p
      obtain ⟨r1, r2⟩ := r
      go_enter Try.func7, Try.ntmps7
      go_wp2_with fail
      refine (q1.out _).mono ?_; rintro e w' ⟨rfl, rfl⟩
      go_wp2_with fail
      refine (q2.out _).mono ?_; rintro e w' ⟨rfl, rfl⟩
      go_wp2_with fail
      refine (q3.out _).mono ?_; rintro e w' ⟨rfl, hb⟩
      have hb' := Lib.hid hb
      clear hb
      go_wp2_with fail
      refine (q4.out _).mono ?_; rintro e w' ⟨rfl, rfl⟩
      go_wp2
      go_ret
      exact ⟨by simp, hb'.out⟩
end Go.Proofs.Ytajmdpndbfmdmaa
