/-
  num.Div, Rem and Neg return what the whole numbers come to. Conditions: the arguments are words of 64 bits.
-/
import Derived.Test.YtajmdpndbfmdmaaDoorNumH
namespace Go.Proofs.YtajmdpndbfmdmaaDoor
open Go Go.RowKit

theorem nan_const : Fl.isN 9221120237041090561 = true := by decide

/-- math.Mod where one of the two is no number (and the second one is not nought). -/
theorem mod_nan (x y : Nat) (hx : x < 18446744073709551616) (hy : y < 18446744073709551616) (h : Fl.isN x = true ∨ Fl.isN y = true) (hi : Fl.flt 9218868437227405311 (x % 9223372036854775808) = false) (hz : Fl.feq y 0 = false) (w : World) :
    Calls Tryd.prog 118 #[.float .f64 x, .float .f64 y] w fun r w' => r = .returned (.float .f64 9221120237041090561) ∧ w = w' := by
  have hI := isInf_any x
  rw [hi] at hI
  have hI' := Lib.hid (fun w' => hI w' hx)
  have hX := Lib.hid (fun w' => isNaN_any x w' hx)
  have hY := Lib.hid (fun w' => isNaN_any y w' hy)
  have hN := Lib.hid (fun w' => nan_any w')
  have h1 := Fl.ord_eql hy (y := 0) (by omega)
  rw [hz] at h1
  have hM : ∀ w', Calls Tryd.prog 153 #[.float .f64 x, .float .f64 y] w' fun r w'' => r = .returned (.float .f64 9221120237041090561) ∧ w' = w'' := by
    intro w'
    cases e1 : Fl.isN x with
    | true =>
      rw [e1] at hX
      clear hI hx hy h hi hz e1
      go_enter Tryd.func153, Tryd.ntmps153
      go_wp2_with (go_at_call 172; refine (hI'.out _).mono ?_; rintro e w' ⟨rfl, rfl⟩)
      refine (hX.out _).mono ?_; rintro e w' ⟨rfl, rfl⟩
      go_wp2_with (go_at_call 96; refine (hN.out _).mono ?_; rintro e w' ⟨rfl, rfl⟩)
      go_ret
      exact ⟨rfl, rfl⟩
    | false =>
      have e2 : Fl.isN y = true := by rcases h with h | h; rw [e1] at h; cases h; exact h
      rw [e1] at hX
      rw [e2] at hY
      clear hI hx hy h hi hz e1 e2
      go_enter Tryd.func153, Tryd.ntmps153
      go_wp2_with (go_at_call 172; refine (hI'.out _).mono ?_; rintro e w' ⟨rfl, rfl⟩)
      refine (hX.out _).mono ?_; rintro e w' ⟨rfl, rfl⟩
      go_wp2_with fail
      refine (hY.out _).mono ?_; rintro e w' ⟨rfl, rfl⟩
      go_wp2_with (go_at_call 96; refine (hN.out _).mono ?_; rintro e w' ⟨rfl, rfl⟩)
      go_ret
      exact ⟨rfl, rfl⟩
  have hM' := Lib.hid hM
  clear hI hx hy h hi hz hM h1
  go_enter Tryd.func118, Tryd.ntmps118
  go_wp2_with (go_at_call 153; refine (hM'.out _).mono ?_; rintro e w' ⟨rfl, rfl⟩)
  go_ret
  exact ⟨rfl, rfl⟩

/-- What may is no infinity. -/
theorem may_noinf {x : Nat} (hx : x < 18446744073709551616) (h : Fl.may x = true) : Fl.flt 9218868437227405311 (x % 9223372036854775808) = false := by
  cases Fl.make_of x with
  | nan hN _ _ => unfold Fl.flt; rw [Fl.isN_mod, hN]; simp
  | int n hn e _ _ _ =>
    subst e
    rw [abs_W hn]
    unfold Fl.flt
    have h1 := (Fl.key_W_bounds (n := (n.natAbs : Int)) (by omega)).2
    rw [show Fl.key 9218868437227405311 = 9218868437227405311 from by decide, decide_eq_false (by omega)]; simp
  | bad _ _ h' => rw [h'] at h; cases h

/-- A float that may be: a whole number, or no number. -/
theorem may_cases {x : Nat} (h : Fl.may x = true) : (Fl.isN x = true ∧ Fl.num? x = none) ∨ ∃ a : Int, a.natAbs < 9007199254740992 ∧ x = Fl.W a ∧ Fl.num? x = some a := by
  cases Fl.make_of x with
  | nan h h2 _ => exact .inl ⟨h, h2⟩
  | int n h e h2 _ _ => exact .inr ⟨n, h, e, h2⟩
  | bad _ _ h' => rw [h'] at h; cases h

theorem feq_zero_W {b : Int} (hb : b.natAbs < 9007199254740992) : Fl.feq (Fl.W b) 0 = decide (b = 0) := by
  have := Fl.feq_W hb (b := 0) (by decide)
  rwa [Fl.W_zero] at this
theorem feq_nan {x y : Nat} (h : Fl.isN x = true) : Fl.feq x y = false := by unfold Fl.feq; rw [h]; rfl

theorem modV_lt (a b : Int) : modV a b < 18446744073709551616 := by
  unfold modV; split
  · decide
  · exact W_lt_any _
theorem modV_small {a b : Int} (ha : a.natAbs < 9007199254740992) : (a.tmod b).natAbs < 9007199254740992 := by
  rw [Int.natAbs_tmod]; exact Nat.lt_of_le_of_lt (Nat.mod_le _ _) ha
theorem feq_modV {a b : Int} (ha : a.natAbs < 9007199254740992) : Fl.feq (modV a b) 0 = decide (a.tmod b = 0) := by
  unfold modV
  split
  · rename_i h; rw [decide_eq_true h.2]; decide
  · exact feq_zero_W (modV_small ha)

theorem done_modV {a b : Int} (ha : a.natAbs < 9007199254740992) (hb : b ≠ 0) : Fl.Done (modV a b) (Fl.remS a b) := by
  unfold Fl.remS modV
  rw [if_neg hb]
  split
  · exact Fl.done_nzero
  · have := Fl.done_W (a.tmod b)
    unfold Fl.lim at this
    rwa [if_pos (modV_small ha)] at this

/-- The word of a quotient of whole numbers, where Div comes to it. -/
theorem quo_word {a b : Int} (ha : a.natAbs < 9007199254740992) (hb : b.natAbs < 9007199254740992) (h : b = 0 ∨ a.tmod b = 0) (hz : ¬ (a = 0 ∧ b = 0)) :
    ∃ R, floatBits .quo .f64 (Fl.W a) (Fl.W b) = some R ∧ Fl.Done R (Fl.divS a b) := by
  unfold Fl.divS
  by_cases hb0 : b = 0
  · subst hb0
    have ha0 : a ≠ 0 := fun h => hz ⟨h, rfl⟩
    rw [if_pos rfl, if_neg ha0]
    have := Fl.div_by_zero ha
    rw [if_neg ha0] at this
    exact ⟨_, this, Fl.word_lt2 _ (by decide), .inr ⟨Fl.may_inf _, rfl⟩⟩
  · have ht : a.tmod b = 0 := h.resolve_left hb0
    rw [if_neg hb0, if_neg (by rw [ht]; simp)]
    have hab : a = a.tdiv b * b := by have := Int.tdiv_mul_add_tmod a b; omega
    by_cases ha0 : a = 0
    · subst ha0
      have := Fl.div_zero_W hb0 hb
      refine ⟨_, this, ?_⟩
      by_cases hneg : b < 0
      · rw [if_pos hneg, if_pos ⟨rfl, hneg⟩]; exact Fl.done_nzero
      · rw [if_neg hneg, if_neg (fun h => hneg h.2), Int.zero_tdiv]; exact Fl.done_W 0
    · rw [if_neg (fun h => ha0 h.1)]
      have hq0 : a.tdiv b ≠ 0 := fun h => ha0 (by rw [hab, h, Int.zero_mul])
      have hq : (a.tdiv b).natAbs < 9007199254740992 := by rw [Int.natAbs_tdiv]; exact Nat.lt_of_le_of_lt (Nat.div_le_self _ _) ha
      have := Fl.div_W hb0 hq0 (by rw [← hab]; exact ha) hb
      rw [← hab] at this
      have hd := Fl.done_W (a.tdiv b)
      unfold Fl.lim at hd
      rw [if_pos hq] at hd
      exact ⟨_, this, hd⟩

theorem divS_inexact {a b : Int} (hb : b ≠ 0) (h : a.tmod b ≠ 0) : Fl.divS a b = (some 0, 10) := by
  unfold Fl.divS; rw [if_neg hb, if_pos h]

theorem Div_any (x y : Nat) (w : World) (hx : x < 18446744073709551616) (hy : y < 18446744073709551616) :
    Calls Tryd.prog 72 #[.float .f64 x, .float .f64 y] w (OpPost (Fl.two Fl.divS x y) w) := by
  have hM := Lib.hid (fun w' => may_any x w' hx)
  have hK := Lib.hid (fun w' => may_any y w' hy)
  cases m1 : Fl.may x with
  | false =>
    rw [m1] at hM
    rw [Fl.two_bad (.inl m1)]
    clear m1 hx hy
    go_enter Tryd.func72, Tryd.ntmps72
    go_wp2_with fail
    refine (hM.out _).mono ?_; rintro e w' ⟨rfl, rfl⟩
    go_wp2_with fail
    go_ret2
    exact ⟨0, rfl, Fl.fits_zero, Below.refl _ _⟩
  | true =>
    rw [m1] at hM
    cases m2 : Fl.may y with
    | false =>
      rw [m2] at hK
      rw [Fl.two_bad (.inr m2)]
      clear m1 m2 hx hy
      go_enter Tryd.func72, Tryd.ntmps72
      go_wp2_with fail
      refine (hM.out _).mono ?_; rintro e w' ⟨rfl, rfl⟩
      go_wp2_with fail
      refine (hK.out _).mono ?_; rintro e w' ⟨rfl, rfl⟩
      go_wp2_with fail
      go_ret2
      exact ⟨0, rfl, Fl.fits_zero, Below.refl _ _⟩
    | true =>
      rw [m2] at hK
      have t1 := Fl.ord_neq hy (y := 0) (by omega)
      have t2 := Fl.ord_eql hx hx
      have t3 := Fl.ord_eql hy hy
      rw [Fl.feq_self] at t2 t3
      have hi := may_noinf hx m1
      rcases may_cases m1 with ⟨n1, q1⟩ | ⟨a, ha, ea, q1⟩
      · -- the first one is no number
        rw [Fl.two_nan m1 m2 (.inl q1)]
        obtain ⟨r, hr1, hr2, hrun⟩ := Fl.run_nan (P := Tryd.prog) .quo 22 x y (.inr (.inr (.inr rfl))) (Fl.div_none hx hy (.inl n1)) w
        have hD := Lib.hid (fun w' => done_any r (none, 0) w' (Fl.done_nan hr1 hr2))
        rw [n1] at t2
        cases z : Fl.feq y 0 with
        | true =>
          rw [z] at t1
          clear m1 m2 hx hy hr1 hr2 hi n1 q1 z
          go_enter Tryd.func72, Tryd.ntmps72
          go_wp2_with fail
          refine (hM.out _).mono ?_; rintro e w' ⟨rfl, rfl⟩
          go_wp2_with fail
          refine (hK.out _).mono ?_; rintro e w' ⟨rfl, rfl⟩
          go_wp2_with fail
          refine (hD.out _).mono ?_; rintro e w' ⟨⟨z, rfl, hz, hb⟩, rfl⟩
          have hz' := Lib.hid hz
          clear hz hb
          go_wp2_with fail
          go_ret2
          exact ⟨z, rfl, hz'.out, (Below.refl _ _).drew⟩
        | false =>
          rw [z] at t1
          have hMod := Lib.hid (fun w' => mod_nan x y hx hy (.inl n1) hi z w')
          have t4 : (FloatKind.f64.format.order 9221120237041090561 0 != some .eq) = true := by decide +kernel
          clear m1 m2 hx hy hr1 hr2 hi n1 q1 z
          go_enter Tryd.func72, Tryd.ntmps72
          go_wp2_with fail
          refine (hM.out _).mono ?_; rintro e w' ⟨rfl, rfl⟩
          go_wp2_with fail
          refine (hK.out _).mono ?_; rintro e w' ⟨rfl, rfl⟩
          go_wp2_with (go_at_call 118; refine (hMod.out _).mono ?_; rintro e w' ⟨rfl, rfl⟩)
          refine (hD.out _).mono ?_; rintro e w' ⟨⟨z, rfl, hz, hb⟩, rfl⟩
          have hz' := Lib.hid hz
          clear hz hb
          go_wp2_with fail
          go_ret2
          exact ⟨z, rfl, hz'.out, (Below.refl _ _).drew⟩
      · rcases may_cases m2 with ⟨n2, q2⟩ | ⟨b, hb, eb, q2⟩
        · -- the second one is no number
          rw [Fl.two_nan m1 m2 (.inr q2)]
          obtain ⟨r, hr1, hr2, hrun⟩ := Fl.run_nan (P := Tryd.prog) .quo 22 x y (.inr (.inr (.inr rfl))) (Fl.div_none hx hy (.inr n2)) w
          have hD := Lib.hid (fun w' => done_any r (none, 0) w' (Fl.done_nan hr1 hr2))
          rw [n2] at t3
          have hN1 : Fl.isN x = false := by rw [ea]; exact Fl.isN_W ha
          rw [hN1] at t2
          have z : Fl.feq y 0 = false := feq_nan n2
          rw [z] at t1
          have hMod := Lib.hid (fun w' => mod_nan x y hx hy (.inr n2) hi z w')
          have t4 : (FloatKind.f64.format.order 9221120237041090561 0 != some .eq) = true := by decide +kernel
          clear m1 m2 hx hy hr1 hr2 hi n2 q1 q2 z ea ha hN1
          go_enter Tryd.func72, Tryd.ntmps72
          go_wp2_with fail
          refine (hM.out _).mono ?_; rintro e w' ⟨rfl, rfl⟩
          go_wp2_with fail
          refine (hK.out _).mono ?_; rintro e w' ⟨rfl, rfl⟩
          go_wp2_with (go_at_call 118; refine (hMod.out _).mono ?_; rintro e w' ⟨rfl, rfl⟩)
          refine (hD.out _).mono ?_; rintro e w' ⟨⟨z, rfl, hz, hb⟩, rfl⟩
          have hz' := Lib.hid hz
          clear hz hb
          go_wp2_with fail
          go_ret2
          exact ⟨z, rfl, hz'.out, (Below.refl _ _).drew⟩
        · -- whole numbers
          rw [Fl.two_int m1 m2 q1 q2]
          subst ea
          subst eb
          rw [Fl.isN_W ha] at t2
          rw [Fl.isN_W hb] at t3
          rw [feq_zero_W hb] at t1
          by_cases hb0 : b = 0
          · rw [decide_eq_true hb0] at t1
            by_cases ha0 : a = 0
            · have hp : Fl.divS a b = (none, 0) := by unfold Fl.divS; rw [if_pos hb0, if_pos ha0]
              rw [hp]
              obtain ⟨r, hr1, hr2, hrun⟩ := Fl.run_nan (P := Tryd.prog) .quo 22 (Fl.W a) (Fl.W b) (.inr (.inr (.inr rfl))) (by rw [ha0, hb0, Fl.W_zero]; exact Fl.div_none_zero) w
              have hD := Lib.hid (fun w' => done_any r (none, 0) w' (Fl.done_nan hr1 hr2))
              clear m1 m2 hx hy hr1 hr2 hi q1 q2 ha hb hb0 ha0 hp t2 t3
              go_enter Tryd.func72, Tryd.ntmps72
              go_wp2_with fail
              refine (hM.out _).mono ?_; rintro e w' ⟨rfl, rfl⟩
              go_wp2_with fail
              refine (hK.out _).mono ?_; rintro e w' ⟨rfl, rfl⟩
              go_wp2_with fail
              refine (hD.out _).mono ?_; rintro e w' ⟨⟨z, rfl, hz, hb⟩, rfl⟩
              have hz' := Lib.hid hz
              clear hz hb
              go_wp2_with fail
              go_ret2
              exact ⟨z, rfl, hz'.out, (Below.refl _ _).drew⟩
            · obtain ⟨R, hR, hdn⟩ := quo_word ha hb (.inl hb0) (fun h => ha0 h.1)
              have hrun := fun w' => run_float_arith (P := Tryd.prog) w' .quo 22 .f64 _ _ _ hR
              have hD := Lib.hid (fun w' => done_any R (Fl.divS a b) w' hdn)
              obtain ⟨p, hp⟩ : ∃ p, p = Fl.divS a b := ⟨_, rfl⟩
              rw [← hp] at hD ⊢
              clear m1 m2 hx hy hi q1 q2 ha hb hb0 ha0 hp t2 t3 hR hdn
              go_enter Tryd.func72, Tryd.ntmps72
              go_wp2_with fail
              refine (hM.out _).mono ?_; rintro e w' ⟨rfl, rfl⟩
              go_wp2_with fail
              refine (hK.out _).mono ?_; rintro e w' ⟨rfl, rfl⟩
              go_wp2_with fail
              refine (hD.out _).mono ?_; rintro e w' ⟨⟨z, rfl, hz, hb⟩, rfl⟩
              have hz' := Lib.hid hz
              clear hz hb
              go_wp2_with fail
              go_ret2
              exact ⟨z, rfl, hz'.out, Below.refl _ _⟩
          · rw [decide_eq_false hb0] at t1
            have hMod := Lib.hid (fun w' => Mod_calls a b ha hb0 hb w')
            have t4 := Fl.ord_neq (modV_lt a b) (y := 0) (by omega)
            rw [feq_modV ha] at t4
            by_cases ht : a.tmod b = 0
            · rw [decide_eq_true ht] at t4
              obtain ⟨R, hR, hdn⟩ := quo_word ha hb (.inr ht) (fun h => hb0 h.2)
              have hrun := fun w' => run_float_arith (P := Tryd.prog) w' .quo 22 .f64 _ _ _ hR
              have hD := Lib.hid (fun w' => done_any R (Fl.divS a b) w' hdn)
              obtain ⟨p, hp⟩ : ∃ p, p = Fl.divS a b := ⟨_, rfl⟩
              rw [← hp] at hD ⊢
              generalize modV a b = V at hMod t4
              clear m1 m2 hx hy hi q1 q2 ha hb hb0 ht hp t2 t3 hR hdn
              go_enter Tryd.func72, Tryd.ntmps72
              go_wp2_with fail
              refine (hM.out _).mono ?_; rintro e w' ⟨rfl, rfl⟩
              go_wp2_with fail
              refine (hK.out _).mono ?_; rintro e w' ⟨rfl, rfl⟩
              go_wp2_with (go_at_call 118; refine (hMod.out _).mono ?_; rintro e w' ⟨rfl, rfl⟩)
              refine (hD.out _).mono ?_; rintro e w' ⟨⟨z, rfl, hz, hb⟩, rfl⟩
              have hz' := Lib.hid hz
              clear hz hb
              go_wp2_with fail
              go_ret2
              exact ⟨z, rfl, hz'.out, Below.refl _ _⟩
            · rw [decide_eq_false ht] at t4
              rw [divS_inexact hb0 ht]
              generalize modV a b = V at hMod t4
              clear m1 m2 hx hy hi q1 q2 ha hb hb0 ht
              go_enter Tryd.func72, Tryd.ntmps72
              go_wp2_with fail
              refine (hM.out _).mono ?_; rintro e w' ⟨rfl, rfl⟩
              go_wp2_with fail
              refine (hK.out _).mono ?_; rintro e w' ⟨rfl, rfl⟩
              go_wp2_with (go_at_call 118; refine (hMod.out _).mono ?_; rintro e w' ⟨rfl, rfl⟩)
              go_ret2
              exact ⟨0, rfl, Fl.fits_zero, Below.refl _ _⟩
end Go.Proofs.YtajmdpndbfmdmaaDoor
