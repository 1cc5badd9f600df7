/-
  value.Calls, Type, Truth, Text and Check, and bailifflaw07.object and alive. Conditions: the kinds are bytes, the numbers words of 64 bits; for texts the table of powers of ten lies.
-/
import Derived.Test.YtajmdpndbfmdmaaDoorValE
import Derived.Test.YtajmdpndbfmdmaaDoorRe
namespace Go.Proofs.YtajmdpndbfmdmaaDoor
open Go Go.RowKit

def callsV (k : Int) : Bool := decide (k = 7) || decide (k = 8)
def truthV (k : Int) (x : Nat) (s : ByteArray) : Bool :=
  if k = 2 ∨ k = 3 then !Fl.feq x 0 && !Fl.isN x else if k = 4 then decide (s.size ≠ 0) else if k = 5 then true else isObj k
def typeV (k : Int) : ByteArray :=
  if k = 0 then ⟨#[117, 110, 100, 101, 102, 105, 110, 101, 100]⟩ else if k = 1 ∨ k = 6 then ⟨#[111, 98, 106, 101, 99, 116]⟩ else if k = 2 then ⟨#[98, 111, 111, 108, 101, 97, 110]⟩ else if k = 3 then ⟨#[110, 117, 109, 98, 101, 114]⟩ else if k = 4 then ⟨#[115, 116, 114, 105, 110, 103]⟩ else if k = 5 then ⟨#[115, 121, 109, 98, 111, 108]⟩ else if k = 7 ∨ k = 8 then ⟨#[102, 117, 110, 99, 116, 105, 111, 110]⟩ else ⟨#[]⟩
def objT (r : Int) : ByteArray := (⟨#[111, 98, 106, 101, 99, 116, 32]⟩ : ByteArray) ++ strOf (Lib.itoa r)
def symT (r : Int) : ByteArray := (⟨#[115, 121, 109, 98, 111, 108, 32]⟩ : ByteArray) ++ strOf (Lib.itoa r)
def textV (k : Int) (x : Nat) (s : ByteArray) (r : Int) : ByteArray :=
  if k = 0 then ⟨#[117, 110, 100, 101, 102, 105, 110, 101, 100]⟩ else if k = 1 then ⟨#[110, 117, 108, 108]⟩ else if k = 2 then (if Fl.feq x 0 then ⟨#[102, 97, 108, 115, 101]⟩ else ⟨#[116, 114, 117, 101]⟩) else if k = 3 then textS x else if k = 4 then strOf (Sp.quoteL s.data.toList) else if k = 5 then symT r else if isObj k then objT r else ⟨#[]⟩

theorem calls_any (k : Int) (x : Nat) (s : ByteArray) (r : Int) (w : World) :
    Calls Tryd.prog 64 #[val k x s r] w fun e w' => e = .returned (.bool (callsV k)) ∧ Below w.heap.size w w' := by
  unfold val
  by_cases h7 : k = 7
  · subst h7
    rw [show callsV 7 = true from by decide]
    go_enter Tryd.func64, Tryd.ntmps64
    go_wp2
    go_ret
    exact ⟨rfl, below_one⟩
  · by_cases h8 : k = 8
    · subst h8
      rw [show callsV 8 = true from by decide]
      go_enter Tryd.func64, Tryd.ntmps64
      go_wp2
      go_ret
      exact ⟨rfl, below_one⟩
    · rw [show callsV k = false from by unfold callsV; simp [h7, h8]]
      have n7 : (k == 7) = false := by rw [beq_eq_false_iff_ne]; exact h7
      have n8 : (k == 8) = false := by rw [beq_eq_false_iff_ne]; exact h8
      clear h7 h8
      go_enter Tryd.func64, Tryd.ntmps64
      go_wp2
      go_ret
      exact ⟨rfl, below_one⟩
theorem type_any (k : Int) (x : Nat) (s : ByteArray) (r : Int) (w : World) (hk : 0 ≤ k) :
    Calls Tryd.prog 65 #[val k x s r] w fun e w' => e = .returned (.string (typeV k)) ∧ Below w.heap.size w w' := by
  unfold val
  have hc : k = 0 ∨ k = 1 ∨ k = 2 ∨ k = 3 ∨ k = 4 ∨ k = 5 ∨ k = 6 ∨ k = 7 ∨ k = 8 ∨ 8 < k := by omega
  rcases hc with rfl | rfl | rfl | rfl | rfl | rfl | rfl | rfl | rfl | h
  · rw [show typeV 0 = ⟨#[117, 110, 100, 101, 102, 105, 110, 101, 100]⟩ from by decide]
    go_enter Tryd.func65, Tryd.ntmps65
    go_wp2
    go_ret
    exact ⟨rfl, below_one⟩
  · rw [show typeV 1 = ⟨#[111, 98, 106, 101, 99, 116]⟩ from by decide]
    go_enter Tryd.func65, Tryd.ntmps65
    go_wp2
    go_ret
    exact ⟨rfl, below_one⟩
  · rw [show typeV 2 = ⟨#[98, 111, 111, 108, 101, 97, 110]⟩ from by decide]
    go_enter Tryd.func65, Tryd.ntmps65
    go_wp2
    go_ret
    exact ⟨rfl, below_one⟩
  · rw [show typeV 3 = ⟨#[110, 117, 109, 98, 101, 114]⟩ from by decide]
    go_enter Tryd.func65, Tryd.ntmps65
    go_wp2
    go_ret
    exact ⟨rfl, below_one⟩
  · rw [show typeV 4 = ⟨#[115, 116, 114, 105, 110, 103]⟩ from by decide]
    go_enter Tryd.func65, Tryd.ntmps65
    go_wp2
    go_ret
    exact ⟨rfl, below_one⟩
  · rw [show typeV 5 = ⟨#[115, 121, 109, 98, 111, 108]⟩ from by decide]
    go_enter Tryd.func65, Tryd.ntmps65
    go_wp2
    go_ret
    exact ⟨rfl, below_one⟩
  · rw [show typeV 6 = ⟨#[111, 98, 106, 101, 99, 116]⟩ from by decide]
    go_enter Tryd.func65, Tryd.ntmps65
    go_wp2
    go_ret
    exact ⟨rfl, below_one⟩
  · rw [show typeV 7 = ⟨#[102, 117, 110, 99, 116, 105, 111, 110]⟩ from by decide]
    go_enter Tryd.func65, Tryd.ntmps65
    go_wp2
    go_ret
    exact ⟨rfl, below_one⟩
  · rw [show typeV 8 = ⟨#[102, 117, 110, 99, 116, 105, 111, 110]⟩ from by decide]
    go_enter Tryd.func65, Tryd.ntmps65
    go_wp2
    go_ret
    exact ⟨rfl, below_one⟩
  · rw [show typeV k = ⟨#[]⟩ from by unfold typeV; rw [if_neg (by omega), if_neg (by omega), if_neg (by omega), if_neg (by omega), if_neg (by omega), if_neg (by omega), if_neg (by omega)]]
    have n0 : (k == 0) = false := by rw [beq_eq_false_iff_ne]; omega
    have n1 : (k == 1) = false := by rw [beq_eq_false_iff_ne]; omega
    have n2 : (k == 2) = false := by rw [beq_eq_false_iff_ne]; omega
    have n3 : (k == 3) = false := by rw [beq_eq_false_iff_ne]; omega
    have n4 : (k == 4) = false := by rw [beq_eq_false_iff_ne]; omega
    have n5 : (k == 5) = false := by rw [beq_eq_false_iff_ne]; omega
    have n6 : (k == 6) = false := by rw [beq_eq_false_iff_ne]; omega
    have n7 : (k == 7) = false := by rw [beq_eq_false_iff_ne]; omega
    have n8 : (k == 8) = false := by rw [beq_eq_false_iff_ne]; omega
    clear h hk
    go_enter Tryd.func65, Tryd.ntmps65
    go_wp2
    go_ret
    exact ⟨rfl, below_one⟩
theorem truth_any (k : Int) (x : Nat) (s : ByteArray) (r : Int) (w : World) (hk : 0 ≤ k) (hx : x < 18446744073709551616) :
    Calls Tryd.prog 66 #[val k x s r] w fun e w' => e = .returned (.bool (truthV k x s)) ∧ Below w.heap.size w w' := by
  have q := Lib.hid (fun w' => vObj_any k x s r w')
  have e1 := Fl.ord_neq hx (y := 0) (by decide)
  have e2 := Fl.ord_eql hx hx
  rw [Fl.feq_self] at e2
  unfold val at *
  have hc : k = 0 ∨ k = 1 ∨ k = 2 ∨ k = 3 ∨ k = 4 ∨ k = 5 ∨ k = 6 ∨ k = 7 ∨ k = 8 ∨ 8 < k := by omega
  rcases hc with rfl | rfl | rfl | rfl | rfl | rfl | rfl | rfl | rfl | h
  · rw [show truthV 0 x s = isObj 0 from by unfold truthV; rw [if_neg (by omega), if_neg (by omega), if_neg (by omega)]]
    generalize isObj 0 = V at *
    clear hx e1 e2
    go_enter Tryd.func66, Tryd.ntmps66
    go_wp2_with fail
    refine (q.out _).mono ?_; rintro e w1 ⟨rfl, b1⟩
    have B1 := Lib.hid b1
    clear b1
    go_wp2
    go_ret
    exact ⟨rfl, below_step B1.out⟩
  · rw [show truthV 1 x s = isObj 1 from by unfold truthV; rw [if_neg (by omega), if_neg (by omega), if_neg (by omega)]]
    generalize isObj 1 = V at *
    clear hx e1 e2
    go_enter Tryd.func66, Tryd.ntmps66
    go_wp2_with fail
    refine (q.out _).mono ?_; rintro e w1 ⟨rfl, b1⟩
    have B1 := Lib.hid b1
    clear b1
    go_wp2
    go_ret
    exact ⟨rfl, below_step B1.out⟩
  · rw [show truthV 2 x s = (!Fl.feq x 0 && !Fl.isN x) from by unfold truthV; rw [if_pos (by decide)]]
    clear q hx
    cases f : Fl.feq x 0
    · rw [f] at e1
      cases g : Fl.isN x
      · rw [g] at e2
        clear f g
        go_enter Tryd.func66, Tryd.ntmps66
        go_wp2
        go_ret
        exact ⟨rfl, below_one⟩
      · rw [g] at e2
        clear f g
        go_enter Tryd.func66, Tryd.ntmps66
        go_wp2
        go_ret
        exact ⟨rfl, below_one⟩
    · rw [f] at e1
      clear f e2
      go_enter Tryd.func66, Tryd.ntmps66
      go_wp2
      go_ret
      exact ⟨rfl, below_one⟩
  · rw [show truthV 3 x s = (!Fl.feq x 0 && !Fl.isN x) from by unfold truthV; rw [if_pos (by decide)]]
    clear q hx
    cases f : Fl.feq x 0
    · rw [f] at e1
      cases g : Fl.isN x
      · rw [g] at e2
        clear f g
        go_enter Tryd.func66, Tryd.ntmps66
        go_wp2
        go_ret
        exact ⟨rfl, below_one⟩
      · rw [g] at e2
        clear f g
        go_enter Tryd.func66, Tryd.ntmps66
        go_wp2
        go_ret
        exact ⟨rfl, below_one⟩
    · rw [f] at e1
      clear f e2
      go_enter Tryd.func66, Tryd.ntmps66
      go_wp2
      go_ret
      exact ⟨rfl, below_one⟩
  · clear q hx e1 e2
    by_cases h0 : s.size = 0
    · rw [show truthV 4 x s = false from by unfold truthV; simp [h0]]
      obtain rfl := empty_of h0
      clear h0
      go_enter Tryd.func66, Tryd.ntmps66
      go_wp2
      go_ret
      exact ⟨rfl, below_one⟩
    · rw [show truthV 4 x s = true from by unfold truthV; simp [h0]]
      have he := isEmpty_of h0
      have hn : s.toList ≠ [] := by intro e; rw [e] at he; cases he
      clear h0
      go_enter Tryd.func66, Tryd.ntmps66
      go_wp2
      go_ret
      exact ⟨rfl, below_one⟩
  · rw [show truthV 5 x s = true from by unfold truthV; simp]
    clear q hx e1 e2
    go_enter Tryd.func66, Tryd.ntmps66
    go_wp2
    go_ret
    exact ⟨rfl, below_one⟩
  · rw [show truthV 6 x s = isObj 6 from by unfold truthV; rw [if_neg (by omega), if_neg (by omega), if_neg (by omega)]]
    generalize isObj 6 = V at *
    clear hx e1 e2
    go_enter Tryd.func66, Tryd.ntmps66
    go_wp2_with fail
    refine (q.out _).mono ?_; rintro e w1 ⟨rfl, b1⟩
    have B1 := Lib.hid b1
    clear b1
    go_wp2
    go_ret
    exact ⟨rfl, below_step B1.out⟩
  · rw [show truthV 7 x s = isObj 7 from by unfold truthV; rw [if_neg (by omega), if_neg (by omega), if_neg (by omega)]]
    generalize isObj 7 = V at *
    clear hx e1 e2
    go_enter Tryd.func66, Tryd.ntmps66
    go_wp2_with fail
    refine (q.out _).mono ?_; rintro e w1 ⟨rfl, b1⟩
    have B1 := Lib.hid b1
    clear b1
    go_wp2
    go_ret
    exact ⟨rfl, below_step B1.out⟩
  · rw [show truthV 8 x s = isObj 8 from by unfold truthV; rw [if_neg (by omega), if_neg (by omega), if_neg (by omega)]]
    generalize isObj 8 = V at *
    clear hx e1 e2
    go_enter Tryd.func66, Tryd.ntmps66
    go_wp2_with fail
    refine (q.out _).mono ?_; rintro e w1 ⟨rfl, b1⟩
    have B1 := Lib.hid b1
    clear b1
    go_wp2
    go_ret
    exact ⟨rfl, below_step B1.out⟩
  · rw [show truthV k x s = isObj k from by unfold truthV; rw [if_neg (by omega), if_neg (by omega), if_neg (by omega)]]
    generalize isObj k = V at *
    have n0 : (k == 0) = false := by rw [beq_eq_false_iff_ne]; omega
    have n1 : (k == 1) = false := by rw [beq_eq_false_iff_ne]; omega
    have n2 : (k == 2) = false := by rw [beq_eq_false_iff_ne]; omega
    have n3 : (k == 3) = false := by rw [beq_eq_false_iff_ne]; omega
    have n4 : (k == 4) = false := by rw [beq_eq_false_iff_ne]; omega
    have n5 : (k == 5) = false := by rw [beq_eq_false_iff_ne]; omega
    have n6 : (k == 6) = false := by rw [beq_eq_false_iff_ne]; omega
    have n7 : (k == 7) = false := by rw [beq_eq_false_iff_ne]; omega
    have n8 : (k == 8) = false := by rw [beq_eq_false_iff_ne]; omega
    clear h hk
    clear hx e1 e2
    go_enter Tryd.func66, Tryd.ntmps66
    go_wp2_with fail
    refine (q.out _).mono ?_; rintro e w1 ⟨rfl, b1⟩
    have B1 := Lib.hid b1
    clear b1
    go_wp2
    go_ret
    exact ⟨rfl, below_step B1.out⟩
theorem itoa_str (r : Int) (w : World) (h0 : -9223372036854775808 ≤ r) (h1 : r ≤ 9223372036854775807) (htab : Lib.TabIs Tryd.prog w "internal/strconv.uint64pow10" .u64 Lib.pow10Tab) :
    Calls Tryd.prog 116 #[.int .i64 r] w fun e w' => e = .returned (.string (strOf (Lib.itoa r))) ∧ Below w.heap.size w w' :=
  (Tryd.strconv_Itoa r h0 h1 w htab).mono fun e w' ⟨he, k, os, hw⟩ => ⟨he, by rw [hw]; exact Lib.below_grow _ _ (Nat.le_refl _) _ _⟩
set_option maxHeartbeats 2000000 in
theorem vText_any (k : Int) (x : Nat) (s : ByteArray) (r : Int) (w : World) (hk : 0 ≤ k) (hx : x < 18446744073709551616) (hs : s.size ≤ 70000) (h0 : -9223372036854775808 ≤ r) (h1 : r ≤ 9223372036854775807) (htab : Lib.TabIs Tryd.prog w "internal/strconv.uint64pow10" .u64 Lib.pow10Tab) :
    Calls Tryd.prog 67 #[val k x s r] w fun e w' => e = .returned (.string (textV k x s r)) ∧ Below w.heap.size w w' := by
  have e1 := Fl.ord_eql hx (y := 0) (by decide)
  have ht := Lib.hid htab
  have q1 := Lib.hid (fun w' => text_any x w' hx)
  have q2 := Lib.hid (fun w' => quote_any s w' hs)
  have q3 := Lib.hid (fun w' => itoa_str r w' h0 h1)
  have hz : (strOf (Lib.itoa r)).size ≤ 21 := by rw [← size_list, strOf_list]; exact Lib.itoa_length_le r h0 h1
  have htb : ∀ o, Hid (Lib.TabIs Tryd.prog (w.alloc o) "internal/strconv.uint64pow10" .u64 Lib.pow10Tab) := fun o => Lib.hid (tab_below ht.out below_one (tab_size ht.out))
  unfold val at *
  clear htab
  have hc : k = 0 ∨ k = 1 ∨ k = 2 ∨ k = 3 ∨ k = 4 ∨ k = 5 ∨ k = 6 ∨ k = 7 ∨ k = 8 ∨ 8 < k := by omega
  rcases hc with rfl | rfl | rfl | rfl | rfl | rfl | rfl | rfl | rfl | h
  · rw [show textV 0 x s r = ⟨#[117, 110, 100, 101, 102, 105, 110, 101, 100]⟩ from rfl]
    clear e1
    clear q1 q2 q3 hz htb
    go_enter Tryd.func67, Tryd.ntmps67
    go_wp2
    go_ret
    exact ⟨rfl, below_one⟩
  · rw [show textV 1 x s r = ⟨#[110, 117, 108, 108]⟩ from rfl]
    clear e1
    clear q1 q2 q3 hz htb
    go_enter Tryd.func67, Tryd.ntmps67
    go_wp2
    go_ret
    exact ⟨rfl, below_one⟩
  · clear q1 q2 q3 hz htb hx
    cases f : Fl.feq x 0
    · rw [f] at e1
      rw [show textV 2 x s r = ⟨#[116, 114, 117, 101]⟩ from by unfold textV; simp [f]]
      clear f
      go_enter Tryd.func67, Tryd.ntmps67
      go_wp2
      go_ret
      exact ⟨rfl, below_one⟩
    · rw [f] at e1
      rw [show textV 2 x s r = ⟨#[102, 97, 108, 115, 101]⟩ from by unfold textV; simp [f]]
      clear f
      go_enter Tryd.func67, Tryd.ntmps67
      go_wp2
      go_ret
      exact ⟨rfl, below_one⟩
  · rw [show textV 3 x s r = textS x from rfl]
    generalize textS x = X at *
    clear e1 q2 q3 hz hx
    go_enter Tryd.func67, Tryd.ntmps67
    go_wp2_with fail
    refine (q1.out _ (htb _).out).mono ?_; rintro e w1 ⟨rfl, b1⟩
    have B1 := Lib.hid b1
    clear b1
    go_wp2
    go_ret
    exact ⟨rfl, below_step B1.out⟩
  · rw [show textV 4 x s r = strOf (Sp.quoteL s.data.toList) from rfl]
    generalize strOf (Sp.quoteL s.data.toList) = X at *
    clear e1 q1 q3 hz hx htb
    go_enter Tryd.func67, Tryd.ntmps67
    go_wp2_with fail
    refine (q2.out _).mono ?_; rintro e w1 ⟨rfl, b1⟩
    have B1 := Lib.hid b1
    clear b1
    go_wp2
    go_ret
    exact ⟨rfl, below_step B1.out⟩
  · rw [show textV 5 x s r = symT r from rfl]
    unfold symT
    generalize strOf (Lib.itoa r) = X at *
    clear e1 q1 q2 hx
    go_enter Tryd.func67, Tryd.ntmps67
    go_wp2_with fail
    refine (q3.out _ (htb _).out).mono ?_; rintro e w1 ⟨rfl, b1⟩
    have B1 := Lib.hid b1
    clear b1
    go_wp2
    go_ret
    exact ⟨rfl, below_step B1.out⟩
  · rw [show textV 6 x s r = objT r from rfl]
    unfold objT
    generalize strOf (Lib.itoa r) = X at *
    clear e1 q1 q2 hx
    go_enter Tryd.func67, Tryd.ntmps67
    go_wp2_with fail
    refine (q3.out _ (htb _).out).mono ?_; rintro e w1 ⟨rfl, b1⟩
    have B1 := Lib.hid b1
    clear b1
    go_wp2
    go_ret
    exact ⟨rfl, below_step B1.out⟩
  · rw [show textV 7 x s r = objT r from rfl]
    unfold objT
    generalize strOf (Lib.itoa r) = X at *
    clear e1 q1 q2 hx
    go_enter Tryd.func67, Tryd.ntmps67
    go_wp2_with fail
    refine (q3.out _ (htb _).out).mono ?_; rintro e w1 ⟨rfl, b1⟩
    have B1 := Lib.hid b1
    clear b1
    go_wp2
    go_ret
    exact ⟨rfl, below_step B1.out⟩
  · rw [show textV 8 x s r = objT r from rfl]
    unfold objT
    generalize strOf (Lib.itoa r) = X at *
    clear e1 q1 q2 hx
    go_enter Tryd.func67, Tryd.ntmps67
    go_wp2_with fail
    refine (q3.out _ (htb _).out).mono ?_; rintro e w1 ⟨rfl, b1⟩
    have B1 := Lib.hid b1
    clear b1
    go_wp2
    go_ret
    exact ⟨rfl, below_step B1.out⟩
  · rw [show textV k x s r = ⟨#[]⟩ from by unfold textV; rw [if_neg (by omega), if_neg (by omega), if_neg (by omega), if_neg (by omega), if_neg (by omega), if_neg (by omega), if_neg (by unfold isObj; simp; omega)]]
    have n0 : (k == 0) = false := by rw [beq_eq_false_iff_ne]; omega
    have n1 : (k == 1) = false := by rw [beq_eq_false_iff_ne]; omega
    have n2 : (k == 2) = false := by rw [beq_eq_false_iff_ne]; omega
    have n3 : (k == 3) = false := by rw [beq_eq_false_iff_ne]; omega
    have n4 : (k == 4) = false := by rw [beq_eq_false_iff_ne]; omega
    have n5 : (k == 5) = false := by rw [beq_eq_false_iff_ne]; omega
    have n6 : (k == 6) = false := by rw [beq_eq_false_iff_ne]; omega
    have n7 : (k == 7) = false := by rw [beq_eq_false_iff_ne]; omega
    have n8 : (k == 8) = false := by rw [beq_eq_false_iff_ne]; omega
    clear h hk e1
    clear q1 q2 q3 hz htb
    go_enter Tryd.func67, Tryd.ntmps67
    go_wp2
    go_ret
    exact ⟨rfl, below_one⟩
theorem object_any (k r : Int) (w : World) :
    Calls Tryd.prog 75 #[.int .u8 k, .int .i64 r] w fun e w' => e = .returned (val k 0 ByteArray.empty r) ∧ Below w.heap.size w w' := by
  go_enter Tryd.func75, Tryd.ntmps75
  go_wp2
  exact bodyPost_ret (v := val k 0 ByteArray.empty r) (by simp [val, results, Tryd.results75, go_sem]; rfl) rfl ⟨rfl, below_one⟩

theorem lawAlive (w : World) :
    Calls Tryd.prog 62 #[] w fun e w' => e = .returned (.bool true) ∧ Below w.heap.size w w' := by
  have a1 := Lib.hid (fun w' => vStr_any ⟨#[48]⟩ w')
  have a2 := Lib.hid (fun w' => truth_any 4 0 ⟨#[48]⟩ 0 w' (by decide) (by decide))
  rw [show truthV 4 0 ⟨#[48]⟩ = true from by decide] at a2
  have a3 := Lib.hid (fun w' => vNum_any 0 w')
  have a4 := Lib.hid (fun w' => truth_any 3 0 ByteArray.empty 0 w' (by decide) (by decide))
  rw [show truthV 3 0 ByteArray.empty = false from by decide +kernel] at a4
  have a5 := Lib.hid (fun w' => object_any 8 1 w')
  have a6 := Lib.hid (fun w' => type_any 8 0 ByteArray.empty 1 w' (by decide))
  rw [show typeV 8 = ⟨#[102, 117, 110, 99, 116, 105, 111, 110]⟩ from by decide] at a6
  have a7 := Lib.hid (fun w' => vNum_any 4607182418800017408 w')
  have a8 := Lib.hid (fun w' => vMay_any 3 4607182418800017408 ByteArray.empty 0 w' (by decide) (by decide))
  rw [show mayV 3 4607182418800017408 ByteArray.empty 0 = true from by decide +kernel] at a8
  unfold val at *
  go_enter Tryd.func62, Tryd.ntmps62
  go_wp2_with fail
  refine (a1.out _).mono ?_; rintro e w1 ⟨rfl, b1⟩
  have B1 := Lib.hid b1
  clear b1
  go_wp2_with fail
  refine (a2.out _).mono ?_; rintro e w2 ⟨rfl, b2⟩
  have B2 := Lib.hid (B1.out.trans (b2.mono B1.out.size))
  clear b2
  go_wp2_with fail
  refine (a3.out _).mono ?_; rintro e w3 ⟨rfl, b3⟩
  have B3 := Lib.hid (B2.out.trans (b3.mono B2.out.size))
  clear b3
  go_wp2_with fail
  refine (a4.out _).mono ?_; rintro e w4 ⟨rfl, b4⟩
  have B4 := Lib.hid (B3.out.trans (b4.mono B3.out.size))
  clear b4
  go_wp2_with fail
  refine (a5.out _).mono ?_; rintro e w5 ⟨rfl, b5⟩
  have B5 := Lib.hid (B4.out.trans (b5.mono B4.out.size))
  clear b5
  go_wp2_with fail
  refine (a6.out _).mono ?_; rintro e w6 ⟨rfl, b6⟩
  have B6 := Lib.hid (B5.out.trans (b6.mono B5.out.size))
  clear b6
  go_wp2_with fail
  refine (a7.out _).mono ?_; rintro e w7 ⟨rfl, b7⟩
  have B7 := Lib.hid (B6.out.trans (b7.mono B6.out.size))
  clear b7
  go_wp2_with fail
  refine (a8.out _).mono ?_; rintro e w8 ⟨rfl, b8⟩
  have B8 := Lib.hid (B7.out.trans (b8.mono B7.out.size))
  clear b8
  go_wp2
  go_ret
  exact ⟨rfl, B8.out⟩

/-- value.Check: what is wrong with a value. -/
def checkV (k : Int) (x : Nat) (s : ByteArray) (r : Int) (o y : Int) : Int :=
  if o < 0 ∨ y < 0 then 2 else if mayV k x s r = false then 9 else if isObj k = true ∧ o ≤ r then 9 else if k = 5 ∧ y ≤ r then 9 else 0
end Go.Proofs.YtajmdpndbfmdmaaDoor
