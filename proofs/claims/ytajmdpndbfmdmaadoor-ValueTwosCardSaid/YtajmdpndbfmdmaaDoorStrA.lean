/-
  str.Join, Repeat and the document's return the strings put together; the walk of bailifflaw02.StrMade. Conditions: strings of at most 9,000 bytes.
-/
import Derived.Test.YtajmdpndbfmdmaaDoorBld
import Derived.LoopTactic
import Derived.Lib.Repeat
namespace Go.Proofs.YtajmdpndbfmdmaaDoor
open Go Go.RowKit

def joinS (a b : ByteArray) : ByteArray × Int := if a.size + b.size > 4096 then (ByteArray.empty, 20) else (a ++ b, 0)

theorem join_any (a b : ByteArray) (w : World) (ha : a.size ≤ 9000) (hb : b.size ≤ 9000) :
    Calls Tryd.prog 36 #[.string a, .string b] w fun e w' => e = .returned (.tuple #[.string (joinS a b).1, .int .i64 (joinS a b).2]) ∧ w = w' := by
  unfold joinS
  by_cases c : a.size + b.size > 4096
  · rw [if_pos c]
    go_enter Tryd.func36, Tryd.ntmps36
    go_wp2
    go_ret2
    exact ⟨rfl, rfl⟩
  · rw [if_neg c]
    go_enter Tryd.func36, Tryd.ntmps36
    go_wp2
    go_ret2
    exact ⟨rfl, rfl⟩

def strOf (l : List UInt8) : ByteArray := ⟨l.toArray⟩
theorem strOf_data (s : ByteArray) : strOf s.data.toList = s := rfl
theorem strOf_list (l : List UInt8) : (strOf l).data.toList = l := rfl
theorem strOf_inj {X : ByteArray} {l : List UInt8} (h : X.data.toList = l) : X = strOf l := by rw [← h, strOf_data]
theorem size_list (s : ByteArray) : s.data.toList.length = s.size := by simp
theorem append_list (a b : ByteArray) : (a ++ b).data.toList = a.data.toList ++ b.data.toList := by simp

def repeatS (s : ByteArray) (n : Int) : ByteArray × Int :=
  if n < 0 then (ByteArray.empty, 2) else if s.size = 0 then (ByteArray.empty, 0) else if n * s.size > 4096 then (ByteArray.empty, 20) else (strOf (Lib.repeatL s.data.toList n.toNat), 0)

theorem empty_of {s : ByteArray} (h : s.size = 0) : s = ByteArray.empty := by
  apply ByteArray.ext; apply Array.eq_empty_of_size_eq_zero; exact h
theorem isEmpty_of {s : ByteArray} (h : s.size ≠ 0) : s.toList.isEmpty = false := by
  rw [Lib.toList_data]
  cases h' : s.data.toList with
  | nil => exact absurd (by rw [← size_list, h']; rfl) h
  | cons => rfl

theorem repeat_any (s : ByteArray) (n : Int) (w : World) (hs : s.size ≤ 9000) (hn0 : -9223372036854775808 ≤ n) (hn1 : n ≤ 9223372036854775807) :
    Calls Tryd.prog 61 #[.string s, .int .i64 n] w fun e w' => e = .returned (.tuple #[.string (repeatS s n).1, .int .i64 (repeatS s n).2]) ∧ Below w.heap.size w w' := by
  unfold repeatS
  by_cases c1 : n < 0
  · rw [if_pos c1]
    go_enter Tryd.func61, Tryd.ntmps61
    go_wp2
    go_ret2
    exact ⟨rfl, Below.refl _ _⟩
  · rw [if_neg c1]
    by_cases c2 : s.size = 0
    · rw [if_pos c2]
      obtain rfl := empty_of c2
      clear c2
      go_enter Tryd.func61, Tryd.ntmps61
      go_wp2
      go_ret2
      exact ⟨rfl, Below.refl _ _⟩
    · rw [if_neg c2]
      have he := isEmpty_of c2
      have hp : 1 ≤ (s.size : Int) := by omega
      by_cases c3 : n * s.size > 4096
      · rw [if_pos c3]
        have h3 : 4096 / (s.size : Int) < n := Int.ediv_lt_of_lt_mul (by omega) c3
        clear c3 c2
        go_enter Tryd.func61, Tryd.ntmps61
        go_wp2
        go_ret2
        exact ⟨rfl, Below.refl _ _⟩
      · rw [if_neg c3]
        have h3 : ¬ 4096 / (s.size : Int) < n := by
          have := (Int.le_ediv_iff_mul_le (a := n) (b := 4096) (c := (s.size : Int)) (by omega)).2 (by omega)
          omega
        have hlen : s.size * n.toNat ≤ 140737488355328 := by
          have h4 : ((s.size * n.toNat : Nat) : Int) = n * s.size := by
            rw [Int.natCast_mul, Int.toNat_of_nonneg (by omega), Int.mul_comm]
          omega
        have hR := Tryd.strings_Repeat s n.toNat
        rw [Int.toNat_of_nonneg (by omega)] at hR
        have hR' := Lib.hid (fun w' => hR w' (by omega) hlen)
        clear hR c3 c2 hlen
        go_enter Tryd.func61, Tryd.ntmps61
        go_wp2_with (go_at_call 115; refine (hR'.out _).mono ?_; rintro e w' ⟨rfl, hb⟩)
        go_ret2
        exact ⟨rfl, hb⟩

end Go.Proofs.YtajmdpndbfmdmaaDoor
