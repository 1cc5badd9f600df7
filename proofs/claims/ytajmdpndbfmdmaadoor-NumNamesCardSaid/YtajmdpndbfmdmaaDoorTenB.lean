/-
  bailiffref01.Tens of any whole number, num.Text and the document's Text return the numeral. Conditions: whole numbers of 64 bits above the least; the table of powers of ten lies.
-/
import Derived.Test.YtajmdpndbfmdmaaDoorTenA
import Derived.Test.YtajmdpndbfmdmaaDoorNumC
import Derived.Test.YtajmdpndbfmdmaaDoorShelf
import Derived.Lib.AppendIntMem
namespace Go.Proofs.YtajmdpndbfmdmaaDoor
open Go Go.RowKit

theorem tens_any (n : Int) (w : World) (h0 : -9223372036854775808 < n) (h1 : n ≤ 9223372036854775807) :
    Calls Tryd.prog 101 #[.int .i64 n] w fun e w' => e = .returned (.string (strOf (Lib.itoa n))) ∧ w = w' := by
  by_cases c : n < 0
  · obtain ⟨u, rfl⟩ : ∃ u : Nat, n = -(u : Int) := ⟨n.natAbs, by omega⟩
    rw [Lib.itoa_neg u (by omega)]
    have hlen : (Lib.decDigits u).length ≤ 20 := by rw [Lib.decDigits_length]; exact Lib.nDigits_le20 u (by omega)
    by_cases c10 : 10 ≤ u
    · have q1 := fun w' => tens_pos (u / 10) w' (by omega)
      have q2 := fun w' => tens_pos (u % 10) w' (by omega)
      rw [show ((u / 10 : Nat) : Int) = (u : Int) / 10 from by omega] at q1
      rw [show ((u % 10 : Nat) : Int) = (u : Int) % 10 from by omega] at q2
      have hd : Lib.decDigits u = Lib.decDigits (u / 10) ++ Lib.decDigits (u % 10) := by
        rw [Lib.decDigits.eq_1 u, dif_neg (by omega), Lib.decDigits_one (Nat.mod_lt _ (by decide))]
      have hl1 : (strOf (Lib.decDigits (u / 10))).size ≤ 20 := by
        rw [← size_list, strOf_list]; have := congrArg List.length hd; rw [List.length_append] at this; omega
      have hl2 : (strOf (Lib.decDigits (u % 10))).size ≤ 20 := by
        rw [← size_list, strOf_list]; have := congrArg List.length hd; rw [List.length_append] at this; omega
      have hfin := Lib.hid (show (⟨#[45]⟩ : ByteArray) ++ strOf (Lib.decDigits (u / 10)) ++ strOf (Lib.decDigits (u % 10)) = strOf (45 :: Lib.decDigits u) from strOf_inj (by rw [append_list, append_list, strOf_list, strOf_list, hd]; rfl))
      generalize strOf (Lib.decDigits (u / 10)) = A at q1 hl1 hfin
      generalize strOf (Lib.decDigits (u % 10)) = B at q2 hl2 hfin
      have q1 := Lib.hid q1
      have q2 := Lib.hid q2
      clear hd
      go_enter Tryd.func101, Tryd.ntmps101
      go_wp2_with fail
      refine (q1.out _).mono ?_; rintro e w' ⟨rfl, rfl⟩
      go_wp2_with fail
      refine (q2.out _).mono ?_; rintro e w' ⟨rfl, rfl⟩
      go_wp2_with fail
      go_ret
      exact ⟨by rw [← hfin.out]; rfl, rfl⟩
    · have q1 := Lib.hid (fun w' => tens_pos u w' (by omega))
      have hl1 : (strOf (Lib.decDigits u)).size ≤ 20 := by rw [← size_list, strOf_list]; exact hlen
      have hfin := Lib.hid (show (⟨#[45]⟩ : ByteArray) ++ strOf (Lib.decDigits u) = strOf (45 :: Lib.decDigits u) from strOf_inj (by rw [append_list, strOf_list]; rfl))
      generalize strOf (Lib.decDigits u) = A at q1 hl1 hfin
      go_enter Tryd.func101, Tryd.ntmps101
      go_wp2_with fail
      refine (q1.out _).mono ?_; rintro e w' ⟨rfl, rfl⟩
      go_wp2_with fail
      go_ret
      exact ⟨by rw [← hfin.out]; rfl, rfl⟩
  · obtain ⟨u, rfl⟩ := Int.eq_ofNat_of_zero_le (a := n) (by omega)
    rw [Lib.itoa_nonneg]
    exact tens_pos u w (by omega)
def textS (x : Nat) : ByteArray := if Fl.isN x then ⟨#[78, 97, 78]⟩ else match Fl.num? x with | some n => strOf (Lib.itoa n) | none => ⟨#[]⟩

theorem text_any (x : Nat) (w : World) (hx : x < 18446744073709551616) (htab : Lib.TabIs Tryd.prog w "internal/strconv.uint64pow10" .u64 Lib.pow10Tab) :
    Calls Tryd.prog 42 #[.float .f64 x] w fun e w' => e = .returned (.string (textS x)) ∧ Below w.heap.size w w' := by
  have hM := Lib.hid (fun w' => may_any x w' hx)
  have h1 := Fl.ord_neq hx hx
  rw [Fl.feq_self] at h1
  cases Fl.make_of x with
  | nan hN h2 h3 =>
    rw [hN] at h1
    have hs := Lib.hid (show textS x = ⟨#[78, 97, 78]⟩ from by unfold textS; rw [if_pos hN])
    clear hN h2 h3 hx htab
    go_enter Tryd.func42, Tryd.ntmps42
    go_wp2
    go_ret
    exact ⟨by rw [hs.out]; rfl, Below.refl _ _⟩
  | bad hN h2 h3 =>
    rw [hN] at h1
    rw [h3] at hM
    have hs := Lib.hid (show textS x = ⟨#[]⟩ from by unfold textS; rw [hN, h2]; rfl)
    clear hN h2 h3 hx htab
    go_enter Tryd.func42, Tryd.ntmps42
    go_wp2_with fail
    refine (hM.out _).mono ?_; rintro e w' ⟨rfl, rfl⟩
    go_wp2
    go_ret
    exact ⟨by rw [hs.out]; rfl, Below.refl _ _⟩
  | int n hn e h2 h3 h4 =>
    rw [h4] at h1
    rw [h3] at hM
    have hc := conv_int64 hn
    have hs := Lib.hid (show textS x = strOf (Lib.itoa n) from by unfold textS; rw [h4, h2]; rfl)
    have q := Lib.hid (Tryd.strconv_FormatInt_10 n (by omega) (by omega) w htab)
    subst e
    clear h2 h3 h4 hx htab
    go_enter Tryd.func42, Tryd.ntmps42
    go_wp2_with fail
    refine (hM.out _).mono ?_; rintro e w' ⟨rfl, rfl⟩
    go_wp2_with fail
    refine q.out.mono ?_; rintro e w' ⟨rfl, k, os, rfl⟩
    go_wp2
    go_ret
    exact ⟨by rw [hs.out]; rfl, Lib.below_grow _ _ (Nat.le_refl _) _ _⟩
end Go.Proofs.YtajmdpndbfmdmaaDoor
