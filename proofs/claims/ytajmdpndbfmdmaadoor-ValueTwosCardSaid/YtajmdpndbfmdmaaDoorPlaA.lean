/-
  str.At and the document's At, Place and Part return what the plain theory says. Conditions: strings of at most 70,000 bytes; floats are words of 64 bits.
-/
import Derived.Test.YtajmdpndbfmdmaaDoorStrH
import Derived.Test.YtajmdpndbfmdmaaDoorFlJ
namespace Go.Proofs.YtajmdpndbfmdmaaDoor
open Go Go.RowKit

def atS (s : ByteArray) (i : Int) : ByteArray × Bool := if i < 0 ∨ (s.size : Int) ≤ i then (ByteArray.empty, false) else (s.extract i.toNat (i.toNat + 1), true)

theorem at_any (s : ByteArray) (i : Int) (w : World) (hs : s.size ≤ 70000) :
    Calls Tryd.prog 25 #[.string s, .int .i64 i] w fun e w' => e = .returned (.tuple #[.string (atS s i).1, .bool (atS s i).2]) ∧ w = w' := by
  unfold atS
  by_cases c1 : i < 0
  · rw [if_pos (.inl c1)]
    go_enter Tryd.func25, Tryd.ntmps25
    go_wp2
    go_ret2
    exact ⟨rfl, rfl⟩
  · by_cases c2 : (s.size : Int) ≤ i
    · rw [if_pos (.inr c2)]
      go_enter Tryd.func25, Tryd.ntmps25
      go_wp2
      go_ret2
      exact ⟨rfl, rfl⟩
    · rw [if_neg (by omega)]
      obtain ⟨k, rfl⟩ := Int.eq_ofNat_of_zero_le (a := i) (by omega)
      rw [Int.toNat_natCast]
      go_enter Tryd.func25, Tryd.ntmps25
      go_wp2
      go_ret2
      exact ⟨rfl, rfl⟩

theorem refAt_any (s : ByteArray) (i : Int) (w : World) (hs : s.size ≤ 70000) :
    Calls Tryd.prog 26 #[.string s, .int .i64 i] w fun e w' => e = .returned (.tuple #[.string (atS s i).1, .bool (atS s i).2]) ∧ w = w' := by
  unfold atS
  by_cases c1 : i < 0
  · rw [if_pos (.inl c1)]
    go_enter Tryd.func26, Tryd.ntmps26
    go_wp2
    go_ret2
    exact ⟨rfl, rfl⟩
  · by_cases c2 : (s.size : Int) ≤ i
    · rw [if_pos (.inr c2)]
      go_enter Tryd.func26, Tryd.ntmps26
      go_wp2
      go_ret2
      exact ⟨rfl, rfl⟩
    · rw [if_neg (by omega)]
      obtain ⟨k, rfl⟩ := Int.eq_ofNat_of_zero_le (a := i) (by omega)
      rw [Int.toNat_natCast]
      go_enter Tryd.func26, Tryd.ntmps26
      go_wp2
      go_ret2
      exact ⟨rfl, rfl⟩

set_option maxRecDepth 100000 in
theorem refPlace_any (s : ByteArray) (x : Nat) (w : World) (hs : s.size ≤ 70000) (hx : x < 18446744073709551616) :
    Calls Tryd.prog 85 #[.string s, .float .f64 x] w fun e w' => e = .returned (.int .i64 ((Fl.placeS s.size x : Nat) : Int)) ∧ w = w' := by
  have h1 := Fl.ord_neq hx hx
  rw [Fl.feq_self] at h1
  obtain ⟨p, hp⟩ : ∃ p, p = Fl.placeS s.size x := ⟨_, rfl⟩
  rw [← hp]
  have hng : ∀ (x : Nat) (w : World), (Op.unary .neg (.float .f64 x)).run Tryd.prog w = .ok (.float .f64 (Op.negFloat .f64 x)) w := fun _ _ => rfl
  cases hN : Fl.isN x with
  | true =>
    have hp0 : p = 0 := by rw [hp]; unfold Fl.placeS; rw [hN]; rfl
    subst hp0
    rw [hN] at h1
    clear hN hp hx
    go_enter Tryd.func85, Tryd.ntmps85
    go_wp2
    go_ret
    exact ⟨rfl, rfl⟩
  | false =>
    rw [hN] at h1
    have h2 := Fl.ord_lss hx (y := 0) (by omega)
    have h3 : Fl.flt x 0 = decide (Fl.key x < 0) := by unfold Fl.flt; rw [hN, Fl.isN_zero, Fl.key_zero']; rfl
    rw [h3] at h2
    have hW := Fl.floatOfInt_W (s.size : Int)
    have hn9 : s.size < 9007199254740992 := by omega
    by_cases hk : Fl.key x < 0
    · rw [decide_eq_true hk] at h2
      have hp2 : p = s.size - Fl.tn x := by rw [hp]; unfold Fl.placeS; rw [hN]; simp only [Bool.false_eq_true, if_false]; rw [if_pos hk]
      by_cases h0 : s.size = 0
      · have hp0 : p = 0 := by omega
        have hW0 : floatOfInt .f64 0 = 0 := Fl.W_zero
        have hg : Op.negFloat .f64 0 = 9223372036854775808 := by decide
        have h4 := Fl.ord_leq hx (y := 9223372036854775808) (by omega)
        have h5 : Fl.fle x 9223372036854775808 = true := by
          unfold Fl.fle
          rw [hN, show Fl.isN 9223372036854775808 = false from by decide, show Fl.key 9223372036854775808 = 0 from by decide]
          simp; omega
        rw [h5] at h4
        obtain rfl := empty_of h0
        subst hp0
        clear hp hp2 h5 h3 hk hN hx hn9 hW
        go_enter Tryd.func85, Tryd.ntmps85
        go_wp2
        go_ret
        exact ⟨rfl, rfl⟩
      · have hg := Fl.neg_nat h0 hn9
        obtain ⟨_, _, k3⟩ := Fl.key_neg_nat h0 hn9
        have h4 := Fl.ord_leq hx k3
        rw [Fl.fle_neg hx hN hk h0 hn9] at h4
        generalize Fl.W (-(s.size : Int)) = M at hg h4
        generalize Fl.W s.size = L at hW hg
        by_cases ht : s.size ≤ Fl.tn x
        · have hp0 : p = 0 := by omega
          subst hp0
          rw [decide_eq_true ht] at h4
          clear hp hp2 h3 hk hN hx k3 ht
          go_enter Tryd.func85, Tryd.ntmps85
          go_wp2
          go_ret
          exact ⟨rfl, rfl⟩
        · rw [decide_eq_false ht] at h4
          have hc := conv_of (Fl.tn_conv hx hN (by omega))
          rw [if_pos hk] at hc
          generalize Fl.tn x = t at ht hc hp2
          have e : (s.size : Int) + -(t : Int) = p := by omega
          have htl : (t : Int) ≤ 70000 := by omega
          clear hp hp2 h3 hk hN hx k3 ht
          go_enter Tryd.func85, Tryd.ntmps85
          go_wp2
          go_ret
          exact ⟨rfl, rfl⟩
    · rw [decide_eq_false hk] at h2
      have hp2 : p = min s.size (Fl.tn x) := by rw [hp]; unfold Fl.placeS; rw [hN]; simp only [Bool.false_eq_true, if_false]; rw [if_neg hk]
      have h4 := Fl.ord_geq hx (Fl.W_nat_lt hn9).1
      rw [Fl.fle_pos hx hN hk hn9] at h4
      generalize Fl.W s.size = L at hW h4
      by_cases ht : s.size ≤ Fl.tn x
      · have hp0 : p = s.size := by omega
        subst hp0
        rw [decide_eq_true ht] at h4
        clear hp hp2 h3 hk hN hx ht
        go_enter Tryd.func85, Tryd.ntmps85
        go_wp2
        go_ret
        exact ⟨rfl, rfl⟩
      · rw [decide_eq_false ht] at h4
        have hc := conv_of (Fl.tn_conv hx hN (by omega))
        rw [if_neg hk] at hc
        generalize Fl.tn x = t at ht hc hp2
        have hpt : p = t := by omega
        subst hpt
        clear hp hp2 h3 hk hN hx ht
        go_enter Tryd.func85, Tryd.ntmps85
        go_wp2
        go_ret
        exact ⟨rfl, rfl⟩

theorem refPart_any (s : ByteArray) (x y : Nat) (w : World) (hs : s.size ≤ 70000) (hx : x < 18446744073709551616) (hy : y < 18446744073709551616) :
    Calls Tryd.prog 28 #[.string s, .float .f64 x, .float .f64 y] w fun e w' => e = .returned (.string (partS s x y)) ∧ w = w' := by
  have q1 := Lib.hid (fun w' => refPlace_any s x w' hs hx)
  have q2 := Lib.hid (fun w' => refPlace_any s y w' hs hy)
  have ha := Fl.placeS_le s.size x
  have hb := Fl.placeS_le s.size y
  unfold partS
  generalize Fl.placeS s.size x = a at *
  generalize Fl.placeS s.size y = b at *
  by_cases c : b ≤ a
  · rw [if_pos c]
    have c' : (b : Int) ≤ a := by omega
    clear c
    go_enter Tryd.func28, Tryd.ntmps28
    go_wp2_with fail
    refine (q1.out _).mono ?_; rintro e w' ⟨rfl, rfl⟩
    go_wp2_with fail
    refine (q2.out _).mono ?_; rintro e w' ⟨rfl, rfl⟩
    go_wp2_with fail
    go_ret
    exact ⟨rfl, rfl⟩
  · rw [if_neg c]
    have c' : ¬ (b : Int) ≤ a := by omega
    have c2 : (a : Int) ≤ b := by omega
    have c3 : (b : Int) ≤ s.size := by omega
    go_enter Tryd.func28, Tryd.ntmps28
    go_wp2_with fail
    refine (q1.out _).mono ?_; rintro e w' ⟨rfl, rfl⟩
    go_wp2_with fail
    refine (q2.out _).mono ?_; rintro e w' ⟨rfl, rfl⟩
    go_wp2_with fail
    go_ret
    exact ⟨rfl, rfl⟩
end Go.Proofs.YtajmdpndbfmdmaaDoor
