/-
  num.done and num.Add, Sub and Mul return what the whole numbers come to. Conditions: the arguments are words of 64 bits.
-/
import Derived.Test.YtajmdpndbfmdmaaDoorModB
import Derived.Test.YtajmdpndbfmdmaaDoorFlH
namespace Go.Proofs.YtajmdpndbfmdmaaDoor
open Go Go.RowKit

/-- What an operation gives: a float that fits, and an error's number. -/
def OpPost (p : Option Int × Int) (w : World) (e : Ending) (w' : World) : Prop :=
  ∃ z, e = .returned (.tuple #[.float .f64 z, .int .i64 p.2]) ∧ Fl.Fits z p.1 ∧ Below w.heap.size w w'

theorem done_any (R : Nat) (p : Option Int × Int) (w : World) (h : Fl.Done R p) :
    Calls Tryd.prog 117 #[.float .f64 R] w fun e w' => OpPost p w e w' ∧ w = w' := by
  have hM := Lib.hid (fun w' => may_any R w' h.1)
  rcases h.2 with ⟨m, hF, hp⟩ | ⟨m, hp⟩
  · rw [m] at hM
    have hF' := Lib.hid hF
    have hp' := Lib.hid hp
    clear h m hF hp
    go_enter Tryd.func117, Tryd.ntmps117
    go_wp2_with (go_at_call 45; refine (hM.out _).mono ?_; rintro e w' ⟨rfl, rfl⟩)
    go_ret2
    exact ⟨⟨R, by rw [hp'.out]; rfl, hF'.out, Below.refl _ _⟩, rfl⟩
  · rw [m] at hM
    have hp' := Lib.hid hp
    clear h m hp
    go_enter Tryd.func117, Tryd.ntmps117
    go_wp2_with (go_at_call 45; refine (hM.out _).mono ?_; rintro e w' ⟨rfl, rfl⟩)
    go_ret2
    exact ⟨⟨0, by rw [hp'.out]; rfl, by rw [hp'.out]; exact Fl.fits_zero, Below.refl _ _⟩, rfl⟩

theorem Add_any (x y : Nat) (w : World) (hx : x < 18446744073709551616) (hy : y < 18446744073709551616) :
    Calls Tryd.prog 69 #[.float .f64 x, .float .f64 y] w (OpPost (Fl.two Fl.addS x y) w) := by
  have hM := Lib.hid (fun w' => may_any x w' hx)
  have hK := Lib.hid (fun w' => may_any y w' hy)
  cases m1 : Fl.may x with
  | false =>
    rw [m1] at hM
    rw [Fl.two_bad (.inl m1)]
    clear m1 hx hy
    go_enter Tryd.func69, Tryd.ntmps69
    go_wp2_with fail
    refine (hM.out _).mono ?_; rintro e w' ⟨rfl, rfl⟩
    go_wp2_with fail
    go_ret2
    exact ⟨0, rfl, Fl.fits_zero, Below.refl _ _⟩
  | true =>
    rw [m1] at hM
    cases m2 : Fl.may y with
    | false =>
      rw [m2] at hK
      rw [Fl.two_bad (.inr m2)]
      clear m1 m2 hx hy
      go_enter Tryd.func69, Tryd.ntmps69
      go_wp2_with fail
      refine (hM.out _).mono ?_; rintro e w' ⟨rfl, rfl⟩
      go_wp2_with fail
      refine (hK.out _).mono ?_; rintro e w' ⟨rfl, rfl⟩
      go_wp2_with fail
      go_ret2
      exact ⟨0, rfl, Fl.fits_zero, Below.refl _ _⟩
    | true =>
      rw [m2] at hK
      by_cases hn : Fl.isN x = true ∨ Fl.isN y = true
      · rw [Fl.two_nan m1 m2 (hn.imp Fl.isN_num? Fl.isN_num?)]
        obtain ⟨r, hr1, hr2, hrun⟩ := Fl.run_nan (P := Tryd.prog) .add 22 x y (Or.inl rfl) (Fl.add_none hx hy hn) w
        have hD := Lib.hid (fun w' => done_any r (none, 0) w' (Fl.done_nan hr1 hr2))
        clear m1 m2 hx hy hn hr1 hr2
        go_enter Tryd.func69, Tryd.ntmps69
        go_wp2_with fail
        refine (hM.out _).mono ?_; rintro e w' ⟨rfl, rfl⟩
        go_wp2_with fail
        refine (hK.out _).mono ?_; rintro e w' ⟨rfl, rfl⟩
        go_wp2_with fail
        refine (hD.out _).mono ?_; rintro e w' ⟨⟨z, rfl, hz, hb⟩, rfl⟩
        have hz' := Lib.hid hz
        clear hz hb
        go_wp2_with fail
        go_ret2
        exact ⟨z, rfl, hz'.out, (Below.refl _ _).drew⟩
      · obtain ⟨a, ha, ea, na⟩ : ∃ a : Int, a.natAbs < 9007199254740992 ∧ x = Fl.W a ∧ Fl.num? x = some a := by
          cases Fl.make_of x with
          | nan h _ _ => exact absurd (.inl h) hn
          | int n h e h2 _ _ => exact ⟨n, h, e, h2⟩
          | bad _ _ h => rw [h] at m1; cases m1
        obtain ⟨b, hb, eb, nb⟩ : ∃ a : Int, a.natAbs < 9007199254740992 ∧ y = Fl.W a ∧ Fl.num? y = some a := by
          cases Fl.make_of y with
          | nan h _ _ => exact absurd (.inr h) hn
          | int n h e h2 _ _ => exact ⟨n, h, e, h2⟩
          | bad _ _ h => rw [h] at m2; cases m2
        rw [Fl.two_int m1 m2 na nb]
        subst ea
        subst eb
        have hrun := fun w' => run_float_arith (P := Tryd.prog) w' .add 22 .f64 _ _ _ (Fl.floatBits_add_W ha hb)
        have hD := Lib.hid (fun w' => done_any _ (Fl.addS a b) w' (Fl.done_W _))
        obtain ⟨R, hR⟩ : ∃ R, R = Fl.W (a + b) := ⟨_, rfl⟩
        rw [← hR] at hrun hD
        obtain ⟨p, hp⟩ : ∃ p, p = Fl.addS a b := ⟨_, rfl⟩
        rw [← hp] at hD ⊢
        clear m1 m2 hx hy hn ha hb na nb hR hp
        go_enter Tryd.func69, Tryd.ntmps69
        go_wp2_with fail
        refine (hM.out _).mono ?_; rintro e w' ⟨rfl, rfl⟩
        go_wp2_with fail
        refine (hK.out _).mono ?_; rintro e w' ⟨rfl, rfl⟩
        go_wp2_with fail
        refine (hD.out _).mono ?_; rintro e w' ⟨⟨z, rfl, hz, hb⟩, rfl⟩
        have hz' := Lib.hid hz
        clear hz hb
        go_wp2_with fail
        go_ret2
        exact ⟨z, rfl, hz'.out, Below.refl _ _⟩

theorem Mul_any (x y : Nat) (w : World) (hx : x < 18446744073709551616) (hy : y < 18446744073709551616) :
    Calls Tryd.prog 70 #[.float .f64 x, .float .f64 y] w (OpPost (Fl.two Fl.mulS x y) w) := by
  have hM := Lib.hid (fun w' => may_any x w' hx)
  have hK := Lib.hid (fun w' => may_any y w' hy)
  cases m1 : Fl.may x with
  | false =>
    rw [m1] at hM
    rw [Fl.two_bad (.inl m1)]
    clear m1 hx hy
    go_enter Tryd.func70, Tryd.ntmps70
    go_wp2_with fail
    refine (hM.out _).mono ?_; rintro e w' ⟨rfl, rfl⟩
    go_wp2_with fail
    go_ret2
    exact ⟨0, rfl, Fl.fits_zero, Below.refl _ _⟩
  | true =>
    rw [m1] at hM
    cases m2 : Fl.may y with
    | false =>
      rw [m2] at hK
      rw [Fl.two_bad (.inr m2)]
      clear m1 m2 hx hy
      go_enter Tryd.func70, Tryd.ntmps70
      go_wp2_with fail
      refine (hM.out _).mono ?_; rintro e w' ⟨rfl, rfl⟩
      go_wp2_with fail
      refine (hK.out _).mono ?_; rintro e w' ⟨rfl, rfl⟩
      go_wp2_with fail
      go_ret2
      exact ⟨0, rfl, Fl.fits_zero, Below.refl _ _⟩
    | true =>
      rw [m2] at hK
      by_cases hn : Fl.isN x = true ∨ Fl.isN y = true
      · rw [Fl.two_nan m1 m2 (hn.imp Fl.isN_num? Fl.isN_num?)]
        obtain ⟨r, hr1, hr2, hrun⟩ := Fl.run_nan (P := Tryd.prog) .mul 22 x y (Or.inr (Or.inr (Or.inl rfl))) (Fl.mul_none hx hy hn) w
        have hD := Lib.hid (fun w' => done_any r (none, 0) w' (Fl.done_nan hr1 hr2))
        clear m1 m2 hx hy hn hr1 hr2
        go_enter Tryd.func70, Tryd.ntmps70
        go_wp2_with fail
        refine (hM.out _).mono ?_; rintro e w' ⟨rfl, rfl⟩
        go_wp2_with fail
        refine (hK.out _).mono ?_; rintro e w' ⟨rfl, rfl⟩
        go_wp2_with fail
        refine (hD.out _).mono ?_; rintro e w' ⟨⟨z, rfl, hz, hb⟩, rfl⟩
        have hz' := Lib.hid hz
        clear hz hb
        go_wp2_with fail
        go_ret2
        exact ⟨z, rfl, hz'.out, (Below.refl _ _).drew⟩
      · obtain ⟨a, ha, ea, na⟩ : ∃ a : Int, a.natAbs < 9007199254740992 ∧ x = Fl.W a ∧ Fl.num? x = some a := by
          cases Fl.make_of x with
          | nan h _ _ => exact absurd (.inl h) hn
          | int n h e h2 _ _ => exact ⟨n, h, e, h2⟩
          | bad _ _ h => rw [h] at m1; cases m1
        obtain ⟨b, hb, eb, nb⟩ : ∃ a : Int, a.natAbs < 9007199254740992 ∧ y = Fl.W a ∧ Fl.num? y = some a := by
          cases Fl.make_of y with
          | nan h _ _ => exact absurd (.inr h) hn
          | int n h e h2 _ _ => exact ⟨n, h, e, h2⟩
          | bad _ _ h => rw [h] at m2; cases m2
        rw [Fl.two_int m1 m2 na nb]
        subst ea
        subst eb
        have hrun := fun w' => run_float_arith (P := Tryd.prog) w' .mul 22 .f64 _ _ _ (Fl.mul_W ha hb)
        have hD := Lib.hid (fun w' => done_any _ (Fl.mulS a b) w' (Fl.done_mul))
        obtain ⟨R, hR⟩ : ∃ R, R = (if a * b = 0 then (if a < 0 ∨ b < 0 then 9223372036854775808 else Fl.W 0) else Fl.W (a * b)) := ⟨_, rfl⟩
        rw [← hR] at hrun hD
        obtain ⟨p, hp⟩ : ∃ p, p = Fl.mulS a b := ⟨_, rfl⟩
        rw [← hp] at hD ⊢
        clear m1 m2 hx hy hn ha hb na nb hR hp
        go_enter Tryd.func70, Tryd.ntmps70
        go_wp2_with fail
        refine (hM.out _).mono ?_; rintro e w' ⟨rfl, rfl⟩
        go_wp2_with fail
        refine (hK.out _).mono ?_; rintro e w' ⟨rfl, rfl⟩
        go_wp2_with fail
        refine (hD.out _).mono ?_; rintro e w' ⟨⟨z, rfl, hz, hb⟩, rfl⟩
        have hz' := Lib.hid hz
        clear hz hb
        go_wp2_with fail
        go_ret2
        exact ⟨z, rfl, hz'.out, Below.refl _ _⟩
end Go.Proofs.YtajmdpndbfmdmaaDoor
