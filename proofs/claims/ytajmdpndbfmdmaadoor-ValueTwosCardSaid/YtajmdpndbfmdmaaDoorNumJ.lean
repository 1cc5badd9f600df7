/-
  num.Rem and Neg return what the whole numbers come to. Conditions: the arguments are words of 64 bits.
-/
import Derived.Test.YtajmdpndbfmdmaaDoorNumI
namespace Go.Proofs.YtajmdpndbfmdmaaDoor
open Go Go.RowKit

theorem Rem_any (x y : Nat) (w : World) (hx : x < 18446744073709551616) (hy : y < 18446744073709551616) :
    Calls Tryd.prog 73 #[.float .f64 x, .float .f64 y] w (OpPost (Fl.two Fl.remS x y) w) := by
  have hM := Lib.hid (fun w' => may_any x w' hx)
  have hK := Lib.hid (fun w' => may_any y w' hy)
  have hN := Lib.hid (fun w' => nan_any w')
  cases m1 : Fl.may x with
  | false =>
    rw [m1] at hM
    rw [Fl.two_bad (.inl m1)]
    clear m1 hx hy
    go_enter Tryd.func73, Tryd.ntmps73
    go_wp2_with fail
    refine (hM.out _).mono ?_; rintro e w' ⟨rfl, rfl⟩
    go_wp2_with fail
    go_ret2
    exact ⟨0, rfl, Fl.fits_zero, Below.refl _ _⟩
  | true =>
    rw [m1] at hM
    cases m2 : Fl.may y with
    | false =>
      rw [m2] at hK
      rw [Fl.two_bad (.inr m2)]
      clear m1 m2 hx hy
      go_enter Tryd.func73, Tryd.ntmps73
      go_wp2_with fail
      refine (hM.out _).mono ?_; rintro e w' ⟨rfl, rfl⟩
      go_wp2_with fail
      refine (hK.out _).mono ?_; rintro e w' ⟨rfl, rfl⟩
      go_wp2_with fail
      go_ret2
      exact ⟨0, rfl, Fl.fits_zero, Below.refl _ _⟩
    | true =>
      rw [m2] at hK
      have t1 := Fl.ord_eql hy (y := 0) (by omega)
      have hi := may_noinf hx m1
      cases z : Fl.feq y 0 with
      | true =>
        have hp : Fl.two Fl.remS x y = (none, 0) := by
          rcases may_cases m1 with ⟨n1, q1⟩ | ⟨a, ha, ea, q1⟩
          · exact Fl.two_nan m1 m2 (.inl q1)
          · rcases may_cases m2 with ⟨n2, q2⟩ | ⟨b, hb, eb, q2⟩
            · exact Fl.two_nan m1 m2 (.inr q2)
            · rw [Fl.two_int m1 m2 q1 q2]
              rw [eb, feq_zero_W hb] at z
              unfold Fl.remS
              rw [if_pos (of_decide_eq_true z)]
        rw [hp]
        rw [z] at t1
        clear m1 m2 hx hy hi z hp
        go_enter Tryd.func73, Tryd.ntmps73
        go_wp2_with fail
        refine (hM.out _).mono ?_; rintro e w' ⟨rfl, rfl⟩
        go_wp2_with fail
        refine (hK.out _).mono ?_; rintro e w' ⟨rfl, rfl⟩
        go_wp2_with (go_at_call 96; refine (hN.out _).mono ?_; rintro e w' ⟨rfl, rfl⟩)
        go_ret2
        exact ⟨_, rfl, ⟨nan_const, by decide⟩, Below.refl _ _⟩
      | false =>
        rw [z] at t1
        obtain ⟨V, hMod, hdn⟩ : ∃ V, (∀ w', Calls Tryd.prog 118 #[.float .f64 x, .float .f64 y] w' fun r w'' => r = .returned (.float .f64 V) ∧ w' = w'') ∧ Fl.Done V (Fl.two Fl.remS x y) := by
          rcases may_cases m1 with ⟨n1, q1⟩ | ⟨a, ha, ea, q1⟩
          · exact ⟨_, fun w' => mod_nan x y hx hy (.inl n1) hi z w', by rw [Fl.two_nan m1 m2 (.inl q1)]; exact Fl.done_nan nan_const (by decide)⟩
          · rcases may_cases m2 with ⟨n2, q2⟩ | ⟨b, hb, eb, q2⟩
            · exact ⟨_, fun w' => mod_nan x y hx hy (.inr n2) hi z w', by rw [Fl.two_nan m1 m2 (.inr q2)]; exact Fl.done_nan nan_const (by decide)⟩
            · rw [Fl.two_int m1 m2 q1 q2]
              rw [eb, feq_zero_W hb] at z
              have hb0 := of_decide_eq_false z
              rw [ea, eb]
              exact ⟨_, fun w' => Mod_calls a b ha hb0 hb w', done_modV ha hb0⟩
        have hMod' := Lib.hid hMod
        have hD := Lib.hid (fun w' => done_any V _ w' hdn)
        generalize Fl.two Fl.remS x y = p at hD ⊢
        clear m1 m2 hx hy hi z hMod hdn
        go_enter Tryd.func73, Tryd.ntmps73
        go_wp2_with fail
        refine (hM.out _).mono ?_; rintro e w' ⟨rfl, rfl⟩
        go_wp2_with fail
        refine (hK.out _).mono ?_; rintro e w' ⟨rfl, rfl⟩
        go_wp2_with (go_at_call 118; refine (hMod'.out _).mono ?_; rintro e w' ⟨rfl, rfl⟩)
        refine (hD.out _).mono ?_; rintro e w' ⟨⟨z, rfl, hz, hb⟩, rfl⟩
        have hz' := Lib.hid hz
        clear hz hb
        go_wp2_with fail
        go_ret2
        exact ⟨z, rfl, hz'.out, Below.refl _ _⟩

theorem Neg_any (x : Nat) (w : World) (hx : x < 18446744073709551616) :
    Calls Tryd.prog 71 #[.float .f64 x] w (OpPost (Fl.one Fl.negS x) w) := by
  have hM := Lib.hid (fun w' => may_any x w' hx)
  have hng : ∀ (x : Nat) (w : World), (Op.unary .neg (.float .f64 x)).run Tryd.prog w = .ok (.float .f64 (Op.negFloat .f64 x)) w := fun _ _ => rfl
  cases m1 : Fl.may x with
  | false =>
    rw [m1] at hM
    have hp : Fl.one Fl.negS x = (some 0, 2) := by unfold Fl.one; rw [m1]; rfl
    rw [hp]
    clear m1 hx hp
    go_enter Tryd.func71, Tryd.ntmps71
    go_wp2_with fail
    refine (hM.out _).mono ?_; rintro e w' ⟨rfl, rfl⟩
    go_wp2_with fail
    go_ret2
    exact ⟨0, rfl, Fl.fits_zero, Below.refl _ _⟩
  | true =>
    rw [m1] at hM
    obtain ⟨V, hV, hdn⟩ : ∃ V, Op.negFloat .f64 x = V ∧ Fl.Done V (Fl.one Fl.negS x) := by
      refine ⟨_, rfl, ?_⟩
      unfold Fl.one
      rw [m1, if_pos rfl]
      rcases may_cases m1 with ⟨n1, q1⟩ | ⟨a, ha, ea, q1⟩
      · rw [q1]
        have := Fl.isN_neg hx
        exact Fl.done_nan (by rw [this.1, n1]) this.2
      · rw [q1]
        show Fl.Done _ (Fl.negS a)
        unfold Fl.negS
        subst ea
        by_cases h0 : a = 0
        · rw [if_pos h0, h0, show Op.negFloat .f64 (Fl.W 0) = 9223372036854775808 from by decide]; exact Fl.done_nzero
        · rw [if_neg h0, Fl.neg_W h0 ha]
          have := Fl.done_W (-a)
          unfold Fl.lim at this
          rwa [if_pos (by omega)] at this
    have hD := Lib.hid (fun w' => done_any V _ w' hdn)
    generalize Fl.one Fl.negS x = p at hD ⊢
    clear m1 hx hdn
    go_enter Tryd.func71, Tryd.ntmps71
    go_wp2_with fail
    refine (hM.out _).mono ?_; rintro e w' ⟨rfl, rfl⟩
    go_wp2_with fail
    refine (hD.out _).mono ?_; rintro e w' ⟨⟨z, rfl, hz, hb⟩, rfl⟩
    have hz' := Lib.hid hz
    clear hz hb
    go_wp2_with fail
    go_ret2
    exact ⟨z, rfl, hz'.out, Below.refl _ _⟩

/-! The document's own answer. -/
/-- Two numbers, as bailiffref01.two tells them. -/
def twoV (x y : Nat) : Value :=
  if Fl.may x = true ∧ Fl.may y = true then .tuple #[.int .i64 (Fl.wholeS x).1, .int .i64 (Fl.wholeS y).1, .bool (!(Fl.wholeS x).2 || !(Fl.wholeS y).2), .int .i64 0]
  else .tuple #[.int .i64 0, .int .i64 0, .bool false, .int .i64 2]

end Go.Proofs.YtajmdpndbfmdmaaDoor
