/-
  bailiffref01.Bits returns what the plain function of the words says. Conditions: the arguments are words of 64 bits.
-/
import Derived.Test.YtajmdpndbfmdmaaNumE
namespace Go.Proofs.Ytajmdpndbfmdmaa
open Go Go.RowKit

theorem low_five' (b : Int) : b % 4294967296 % 32 = b % 32 := by omega
theorem shl_ref (a : Int) (k : Nat) : wrap32 ((a % 4294967296 * 2 ^ k) % 4294967296) = wrap32 (a * 2 ^ k) := by
  have h : (a % 4294967296 * 2 ^ k) % 4294967296 = (a * 2 ^ k) % 4294967296 := by
    rw [Int.mul_emod, Int.emod_emod, ← Int.mul_emod]
  unfold wrap32
  rw [h]
  omega

theorem refBits_any (o : Int) (x y : Nat) (w : World) (hx : x < 18446744073709551616) (hy : y < 18446744073709551616) :
    Calls Try.prog 23 #[.int .u8 o, .float .f64 x, .float .f64 y] w fun e w' => e = .returned (.tuple #[.float .f64 (bitsS o x y).1, .int .i64 (bitsS o x y).2]) ∧ w = w' := by
  by_cases h : Fl.may x = true ∧ Fl.may y = true
  · have hs : bitsS o x y = bitsR (bitsV o (Fl.intS x) (Fl.intS y)) := by unfold bitsS; rw [if_pos h]
    rw [hs]
    have a1 := Lib.hid (fun w' => refMay_any x w' hx)
    have a2 := Lib.hid (fun w' => refMay_any y w' hy)
    have b1 := Lib.hid (fun w' => refInt_any x w' hx)
    have b2 := Lib.hid (fun w' => refInt_any y w' hy)
    have hfw := Fl.floatOfInt_W
    rw [h.1] at a1
    rw [h.2] at a2
    generalize Fl.intS x = a at *
    generalize Fl.intS y = b at *
    have hk := low_five' b
    have hsl := Lib.hid (shl_ref a (b % 32).toNat)
    have hv := bitsV_eq o a b
    have k0 : 0 ≤ b % 32 := by omega
    have k1 : b % 32 ≤ 31 := by omega
    clear hs h hx hy
    by_cases c38 : o = 38
    · rw [if_pos c38] at hv
      rw [hv]
      clear hv
      subst c38
      go_enter Try.func23, Try.ntmps23
      go_wp2_with fail
      refine (a1.out _).mono ?_; rintro e w' ⟨rfl, rfl⟩
      go_wp2_with fail
      refine (a2.out _).mono ?_; rintro e w' ⟨rfl, rfl⟩
      go_wp2_with fail
      refine (b1.out _).mono ?_; rintro e w' ⟨rfl, rfl⟩
      go_wp2_with fail
      refine (b2.out _).mono ?_; rintro e w' ⟨rfl, rfl⟩
      go_wp2
      go_ret2
      exact ⟨rfl, rfl⟩
    · rw [if_neg c38] at hv
      by_cases c124 : o = 124
      · rw [if_pos c124] at hv
        rw [hv]
        clear hv
        subst c124
        go_enter Try.func23, Try.ntmps23
        go_wp2_with fail
        refine (a1.out _).mono ?_; rintro e w' ⟨rfl, rfl⟩
        go_wp2_with fail
        refine (a2.out _).mono ?_; rintro e w' ⟨rfl, rfl⟩
        go_wp2_with fail
        refine (b1.out _).mono ?_; rintro e w' ⟨rfl, rfl⟩
        go_wp2_with fail
        refine (b2.out _).mono ?_; rintro e w' ⟨rfl, rfl⟩
        go_wp2
        go_ret2
        exact ⟨rfl, rfl⟩
      · rw [if_neg c124] at hv
        by_cases c94 : o = 94
        · rw [if_pos c94] at hv
          rw [hv]
          clear hv
          subst c94
          go_enter Try.func23, Try.ntmps23
          go_wp2_with fail
          refine (a1.out _).mono ?_; rintro e w' ⟨rfl, rfl⟩
          go_wp2_with fail
          refine (a2.out _).mono ?_; rintro e w' ⟨rfl, rfl⟩
          go_wp2_with fail
          refine (b1.out _).mono ?_; rintro e w' ⟨rfl, rfl⟩
          go_wp2_with fail
          refine (b2.out _).mono ?_; rintro e w' ⟨rfl, rfl⟩
          go_wp2
          go_ret2
          exact ⟨rfl, rfl⟩
        · rw [if_neg c94] at hv
          by_cases c60 : o = 60
          · rw [if_pos c60] at hv
            rw [hv]
            clear hv
            subst c60
            go_enter Try.func23, Try.ntmps23
            go_wp2_with fail
            refine (a1.out _).mono ?_; rintro e w' ⟨rfl, rfl⟩
            go_wp2_with fail
            refine (a2.out _).mono ?_; rintro e w' ⟨rfl, rfl⟩
            go_wp2_with fail
            refine (b1.out _).mono ?_; rintro e w' ⟨rfl, rfl⟩
            go_wp2_with fail
            refine (b2.out _).mono ?_; rintro e w' ⟨rfl, rfl⟩
            go_wp2
            go_ret2
            exact ⟨by rw [← hsl.out]; rfl, rfl⟩
          · rw [if_neg c60] at hv
            by_cases c62 : o = 62
            · rw [if_pos c62] at hv
              rw [hv]
              clear hv
              subst c62
              go_enter Try.func23, Try.ntmps23
              go_wp2_with fail
              refine (a1.out _).mono ?_; rintro e w' ⟨rfl, rfl⟩
              go_wp2_with fail
              refine (a2.out _).mono ?_; rintro e w' ⟨rfl, rfl⟩
              go_wp2_with fail
              refine (b1.out _).mono ?_; rintro e w' ⟨rfl, rfl⟩
              go_wp2_with fail
              refine (b2.out _).mono ?_; rintro e w' ⟨rfl, rfl⟩
              go_wp2
              go_ret2
              exact ⟨rfl, rfl⟩
            · rw [if_neg c62] at hv
              by_cases c117 : o = 117
              · rw [if_pos c117] at hv
                rw [hv]
                clear hv
                subst c117
                go_enter Try.func23, Try.ntmps23
                go_wp2_with fail
                refine (a1.out _).mono ?_; rintro e w' ⟨rfl, rfl⟩
                go_wp2_with fail
                refine (a2.out _).mono ?_; rintro e w' ⟨rfl, rfl⟩
                go_wp2_with fail
                refine (b1.out _).mono ?_; rintro e w' ⟨rfl, rfl⟩
                go_wp2_with fail
                refine (b2.out _).mono ?_; rintro e w' ⟨rfl, rfl⟩
                go_wp2
                go_ret2
                exact ⟨rfl, rfl⟩
              · rw [if_neg c117] at hv
                rw [hv]
                clear hv
                have d38 : (o == 38) = false := by rw [beq_eq_false_iff_ne]; exact c38
                clear c38
                have d124 : (o == 124) = false := by rw [beq_eq_false_iff_ne]; exact c124
                clear c124
                have d94 : (o == 94) = false := by rw [beq_eq_false_iff_ne]; exact c94
                clear c94
                have d60 : (o == 60) = false := by rw [beq_eq_false_iff_ne]; exact c60
                clear c60
                have d62 : (o == 62) = false := by rw [beq_eq_false_iff_ne]; exact c62
                clear c62
                have d117 : (o == 117) = false := by rw [beq_eq_false_iff_ne]; exact c117
                clear c117
                go_enter Try.func23, Try.ntmps23
                go_wp2_with fail
                refine (a1.out _).mono ?_; rintro e w' ⟨rfl, rfl⟩
                go_wp2_with fail
                refine (a2.out _).mono ?_; rintro e w' ⟨rfl, rfl⟩
                go_wp2_with fail
                refine (b1.out _).mono ?_; rintro e w' ⟨rfl, rfl⟩
                go_wp2_with fail
                refine (b2.out _).mono ?_; rintro e w' ⟨rfl, rfl⟩
                go_wp2
                go_ret2
                exact ⟨rfl, rfl⟩
  · have hs : bitsS o x y = (0, 2) := by unfold bitsS; rw [if_neg h]
    rw [hs]
    exact refBits_may o x y w hx hy h
end Go.Proofs.Ytajmdpndbfmdmaa
