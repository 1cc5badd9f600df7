/-
  num.Int and bailiffref01.Int return the 32 bits of a whole number, or 0. Conditions: the argument is a word of 64 bits.
-/
import Derived.Test.YtajmdpndbfmdmaaDoorNumC
namespace Go.Proofs.YtajmdpndbfmdmaaDoor
open Go Go.RowKit

theorem int_any (x : Nat) (w : World) (hx : x < 18446744073709551616) :
    Calls Tryd.prog 48 #[.float .f64 x] w fun e w' => e = .returned (.int .i32 (Fl.intS x)) ∧ w = w' := by
  have hM := Lib.hid (fun w' => may_any x w' hx)
  have h1 := Fl.ord_neq hx hx
  rw [Fl.feq_self] at h1
  cases Fl.make_of x with
  | nan hN h2 h3 =>
    rw [hN] at h1
    have hs : Fl.intS x = 0 := by unfold Fl.intS; rw [h2]
    rw [hs]
    clear hN h2 h3 hs hx
    go_enter Tryd.func48, Tryd.ntmps48
    go_wp2
    go_ret
    exact ⟨rfl, rfl⟩
  | bad hN h2 h3 =>
    rw [hN] at h1
    have hs : Fl.intS x = 0 := by unfold Fl.intS; rw [h2]
    rw [hs]
    rw [h3] at hM
    clear hN h2 h3 hs hx
    go_enter Tryd.func48, Tryd.ntmps48
    go_wp2_with (go_at_call 45; refine (hM.out _).mono ?_; rintro e w' ⟨rfl, rfl⟩)
    go_ret
    exact ⟨rfl, rfl⟩
  | int n hn e h2 h3 h4 =>
    rw [h4] at h1
    rw [h3] at hM
    have hc := conv_int64 hn
    have hs : Fl.intS x = wrap32 n := by unfold Fl.intS; rw [h2]
    rw [hs]
    clear hs h2 h3 h4 hx hn
    subst e
    go_enter Tryd.func48, Tryd.ntmps48
    go_wp2_with (go_at_call 45; refine (hM.out _).mono ?_; rintro e w' ⟨rfl, rfl⟩)
    go_ret
    exact ⟨rfl, rfl⟩

theorem tmod_bounds (n : Int) : -4294967296 < n.tmod 4294967296 ∧ n.tmod 4294967296 < 4294967296 := by
  have := Int.natAbs_tmod n 4294967296
  have h : n.natAbs % (4294967296 : Int).natAbs < 4294967296 := Nat.mod_lt _ (by decide)
  omega
theorem wrap32_tmod (n : Int) :
    (n.tmod 4294967296 < 0 → n.tmod 4294967296 + 4294967296 ≥ 2147483648 → wrap32 n = n.tmod 4294967296) ∧
    (n.tmod 4294967296 < 0 → ¬ n.tmod 4294967296 + 4294967296 ≥ 2147483648 → wrap32 n = n.tmod 4294967296 + 4294967296) ∧
    (¬ n.tmod 4294967296 < 0 → n.tmod 4294967296 ≥ 2147483648 → wrap32 n = n.tmod 4294967296 - 4294967296) ∧
    (¬ n.tmod 4294967296 < 0 → ¬ n.tmod 4294967296 ≥ 2147483648 → wrap32 n = n.tmod 4294967296) := by
  have h := Int.tmod_eq_emod (a := n) (b := 4294967296)
  unfold wrap32
  rw [h]
  split <;> refine ⟨?_, ?_, ?_, ?_⟩ <;> omega

/-- What an operation on bits gives. -/
def bitsV (o a b : Int) : Option Int :=
  if o = 38 then some (bits .and .i32 a b) else if o = 124 then some (bits .or .i32 a b) else if o = 94 then some (bits .xor .i32 a b)
  else if o = 60 then some (wrap32 (a * 2 ^ (b % 32).toNat)) else if o = 62 then some (a / 2 ^ (b % 32).toNat)
  else if o = 117 then some (a % 4294967296 / 2 ^ (b % 32).toNat) else none
def bitsR : Option Int → Nat × Int
  | some n => (Fl.W n, 0)
  | none => (0, 2)
def bitsS (o : Int) (x y : Nat) : Nat × Int :=
  if Fl.may x = true ∧ Fl.may y = true then bitsR (bitsV o (Fl.intS x) (Fl.intS y)) else (0, 2)

theorem low_five (b : Int) : bits BinOp.and IntKind.u32 (b % 4294967296) 31 = b % 32 := by
  have h : (31 : Int) = ((31 : Nat) : Int) := rfl
  obtain ⟨k, hk⟩ := Int.eq_ofNat_of_zero_le (show 0 ≤ b % 4294967296 by omega)
  rw [hk, h, u32_and_nat k 31 (by omega) (by omega), nat_mask5]
  omega

theorem bits_may (o : Int) (x y : Nat) (w : World) (hx : x < 18446744073709551616) (hy : y < 18446744073709551616) (h : ¬ (Fl.may x = true ∧ Fl.may y = true)) :
    Calls Tryd.prog 47 #[.int .u8 o, .float .f64 x, .float .f64 y] w fun e w' => e = .returned (.tuple #[.float .f64 0, .int .i64 2]) ∧ w = w' := by
  have a1 := Lib.hid (fun w' => may_any x w' hx)
  have a2 := Lib.hid (fun w' => may_any y w' hy)
  cases m1 : Fl.may x with
  | false =>
    rw [m1] at a1
    clear h m1
    go_enter Tryd.func47, Tryd.ntmps47
    go_wp2_with fail
    refine (a1.out _).mono ?_; rintro e w' ⟨rfl, rfl⟩
    go_wp2_with fail
    go_ret2
    exact ⟨rfl, rfl⟩
  | true =>
    have m2 : Fl.may y = false := by cases m2 : Fl.may y; rfl; exact absurd ⟨m1, m2⟩ h
    rw [m1] at a1
    rw [m2] at a2
    clear h m1 m2
    go_enter Tryd.func47, Tryd.ntmps47
    go_wp2_with fail
    refine (a1.out _).mono ?_; rintro e w' ⟨rfl, rfl⟩
    go_wp2_with fail
    refine (a2.out _).mono ?_; rintro e w' ⟨rfl, rfl⟩
    go_wp2_with fail
    go_ret2
    exact ⟨rfl, rfl⟩

theorem bitsV_eq (o a b : Int) : bitsV o a b = if o = 38 then some (bits .and .i32 a b) else if o = 124 then some (bits .or .i32 a b) else if o = 94 then some (bits .xor .i32 a b)
      else if o = 60 then some (wrap32 (a * 2 ^ (b % 32).toNat)) else if o = 62 then some (a / 2 ^ (b % 32).toNat)
      else if o = 117 then some (a % 4294967296 / 2 ^ (b % 32).toNat) else none := rfl

theorem bits_any (o : Int) (x y : Nat) (w : World) (hx : x < 18446744073709551616) (hy : y < 18446744073709551616) :
    Calls Tryd.prog 47 #[.int .u8 o, .float .f64 x, .float .f64 y] w fun e w' => e = .returned (.tuple #[.float .f64 (bitsS o x y).1, .int .i64 (bitsS o x y).2]) ∧ w = w' := by
  by_cases h : Fl.may x = true ∧ Fl.may y = true
  · have hs : bitsS o x y = bitsR (bitsV o (Fl.intS x) (Fl.intS y)) := by unfold bitsS; rw [if_pos h]
    rw [hs]
    have a1 := Lib.hid (fun w' => may_any x w' hx)
    have a2 := Lib.hid (fun w' => may_any y w' hy)
    have b1 := Lib.hid (fun w' => int_any x w' hx)
    have b2 := Lib.hid (fun w' => int_any y w' hy)
    have hfw := Fl.floatOfInt_W
    rw [h.1] at a1
    rw [h.2] at a2
    generalize Fl.intS x = a at *
    generalize Fl.intS y = b at *
    have hk := low_five b
    have hv := bitsV_eq o a b
    have k0 : 0 ≤ b % 32 := by omega
    have k1 : b % 32 ≤ 31 := by omega
    clear hs h hx hy
    by_cases c38 : o = 38
    · rw [if_pos c38] at hv
      rw [hv]
      clear hv
      subst c38
      go_enter Tryd.func47, Tryd.ntmps47
      go_wp2_with fail
      refine (a1.out _).mono ?_; rintro e w' ⟨rfl, rfl⟩
      go_wp2_with fail
      refine (a2.out _).mono ?_; rintro e w' ⟨rfl, rfl⟩
      go_wp2_with fail
      refine (b1.out _).mono ?_; rintro e w' ⟨rfl, rfl⟩
      go_wp2_with fail
      refine (b2.out _).mono ?_; rintro e w' ⟨rfl, rfl⟩
      go_wp2
      go_ret2
      exact ⟨rfl, rfl⟩
    · rw [if_neg c38] at hv
      by_cases c124 : o = 124
      · rw [if_pos c124] at hv
        rw [hv]
        clear hv
        subst c124
        go_enter Tryd.func47, Tryd.ntmps47
        go_wp2_with fail
        refine (a1.out _).mono ?_; rintro e w' ⟨rfl, rfl⟩
        go_wp2_with fail
        refine (a2.out _).mono ?_; rintro e w' ⟨rfl, rfl⟩
        go_wp2_with fail
        refine (b1.out _).mono ?_; rintro e w' ⟨rfl, rfl⟩
        go_wp2_with fail
        refine (b2.out _).mono ?_; rintro e w' ⟨rfl, rfl⟩
        go_wp2
        go_ret2
        exact ⟨rfl, rfl⟩
      · rw [if_neg c124] at hv
        by_cases c94 : o = 94
        · rw [if_pos c94] at hv
          rw [hv]
          clear hv
          subst c94
          go_enter Tryd.func47, Tryd.ntmps47
          go_wp2_with fail
          refine (a1.out _).mono ?_; rintro e w' ⟨rfl, rfl⟩
          go_wp2_with fail
          refine (a2.out _).mono ?_; rintro e w' ⟨rfl, rfl⟩
          go_wp2_with fail
          refine (b1.out _).mono ?_; rintro e w' ⟨rfl, rfl⟩
          go_wp2_with fail
          refine (b2.out _).mono ?_; rintro e w' ⟨rfl, rfl⟩
          go_wp2
          go_ret2
          exact ⟨rfl, rfl⟩
        · rw [if_neg c94] at hv
          by_cases c60 : o = 60
          · rw [if_pos c60] at hv
            rw [hv]
            clear hv
            subst c60
            go_enter Tryd.func47, Tryd.ntmps47
            go_wp2_with fail
            refine (a1.out _).mono ?_; rintro e w' ⟨rfl, rfl⟩
            go_wp2_with fail
            refine (a2.out _).mono ?_; rintro e w' ⟨rfl, rfl⟩
            go_wp2_with fail
            refine (b1.out _).mono ?_; rintro e w' ⟨rfl, rfl⟩
            go_wp2_with fail
            refine (b2.out _).mono ?_; rintro e w' ⟨rfl, rfl⟩
            go_wp2
            go_ret2
            exact ⟨rfl, rfl⟩
          · rw [if_neg c60] at hv
            by_cases c62 : o = 62
            · rw [if_pos c62] at hv
              rw [hv]
              clear hv
              subst c62
              go_enter Tryd.func47, Tryd.ntmps47
              go_wp2_with fail
              refine (a1.out _).mono ?_; rintro e w' ⟨rfl, rfl⟩
              go_wp2_with fail
              refine (a2.out _).mono ?_; rintro e w' ⟨rfl, rfl⟩
              go_wp2_with fail
              refine (b1.out _).mono ?_; rintro e w' ⟨rfl, rfl⟩
              go_wp2_with fail
              refine (b2.out _).mono ?_; rintro e w' ⟨rfl, rfl⟩
              go_wp2
              go_ret2
              exact ⟨rfl, rfl⟩
            · rw [if_neg c62] at hv
              by_cases c117 : o = 117
              · rw [if_pos c117] at hv
                rw [hv]
                clear hv
                subst c117
                go_enter Tryd.func47, Tryd.ntmps47
                go_wp2_with fail
                refine (a1.out _).mono ?_; rintro e w' ⟨rfl, rfl⟩
                go_wp2_with fail
                refine (a2.out _).mono ?_; rintro e w' ⟨rfl, rfl⟩
                go_wp2_with fail
                refine (b1.out _).mono ?_; rintro e w' ⟨rfl, rfl⟩
                go_wp2_with fail
                refine (b2.out _).mono ?_; rintro e w' ⟨rfl, rfl⟩
                go_wp2
                go_ret2
                exact ⟨rfl, rfl⟩
              · rw [if_neg c117] at hv
                rw [hv]
                clear hv
                have d38 : (o == 38) = false := by rw [beq_eq_false_iff_ne]; exact c38
                clear c38
                have d124 : (o == 124) = false := by rw [beq_eq_false_iff_ne]; exact c124
                clear c124
                have d94 : (o == 94) = false := by rw [beq_eq_false_iff_ne]; exact c94
                clear c94
                have d60 : (o == 60) = false := by rw [beq_eq_false_iff_ne]; exact c60
                clear c60
                have d62 : (o == 62) = false := by rw [beq_eq_false_iff_ne]; exact c62
                clear c62
                have d117 : (o == 117) = false := by rw [beq_eq_false_iff_ne]; exact c117
                clear c117
                go_enter Tryd.func47, Tryd.ntmps47
                go_wp2_with fail
                refine (a1.out _).mono ?_; rintro e w' ⟨rfl, rfl⟩
                go_wp2_with fail
                refine (a2.out _).mono ?_; rintro e w' ⟨rfl, rfl⟩
                go_wp2_with fail
                refine (b1.out _).mono ?_; rintro e w' ⟨rfl, rfl⟩
                go_wp2_with fail
                refine (b2.out _).mono ?_; rintro e w' ⟨rfl, rfl⟩
                go_wp2
                go_ret2
                exact ⟨rfl, rfl⟩
  · have hs : bitsS o x y = (0, 2) := by unfold bitsS; rw [if_neg h]
    rw [hs]
    exact bits_may o x y w hx hy h
end Go.Proofs.YtajmdpndbfmdmaaDoor
