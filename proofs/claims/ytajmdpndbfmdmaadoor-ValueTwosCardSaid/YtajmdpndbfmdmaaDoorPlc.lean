/-
  str.place returns the place of a float in a string. Conditions: strings of at most 70,000 bytes; the float is a word of 64 bits.
-/
import Derived.Test.YtajmdpndbfmdmaaDoorNumA
import Derived.Test.YtajmdpndbfmdmaaDoorNumB
import Derived.Test.YtajmdpndbfmdmaaDoorNumC
import Derived.Test.YtajmdpndbfmdmaaDoorFlI
namespace Go.Proofs.YtajmdpndbfmdmaaDoor
open Go Go.RowKit

theorem conv_of {z : Nat} {n : Int} (h : floatToIntVal .f64 z .i64 = some n) (w : World) : (convert 22 3 (.float .f64 z)).run Tryd.prog w = .ok (.int .i64 n) w :=
  run_convert_float_int w 22 3 .f64 .i64 z n (by rw [Tryd.underlying22]; rfl) Tryd.underlying3 h

theorem place_any (s : ByteArray) (x : Nat) (w : World) (hs : s.size ≤ 70000) (hx : x < 18446744073709551616) :
    Calls Tryd.prog 84 #[.string s, .float .f64 x] w fun e w' => e = .returned (.int .i64 ((Fl.placeS s.size x : Nat) : Int)) ∧ w = w' := by
  have h1 := Fl.ord_neq hx hx
  rw [Fl.feq_self] at h1
  obtain ⟨p, hp⟩ : ∃ p, p = Fl.placeS s.size x := ⟨_, rfl⟩
  rw [← hp]
  cases hN : Fl.isN x with
  | true =>
    have hp0 : p = 0 := by rw [hp]; unfold Fl.placeS; rw [hN]; rfl
    subst hp0
    rw [hN] at h1
    clear hN hp hx
    go_enter Tryd.func84, Tryd.ntmps84
    go_wp2
    go_ret
    exact ⟨rfl, rfl⟩
  | false =>
    rw [hN] at h1
    have hT := Lib.hid (fun w' => trunc_any x w' (by rw [Fl.isN_read hx, hN]))
    have h2 := Fl.ord_lss hx (y := 0) (by omega)
    have h3 : Fl.flt x 0 = decide (Fl.key x < 0) := by unfold Fl.flt; rw [hN, Fl.isN_zero, Fl.key_zero']; rfl
    rw [h3] at h2
    have hW := Fl.floatOfInt_W (s.size : Int)
    by_cases hk : Fl.key x < 0
    · obtain ⟨S, Z, e1, e2, e3⟩ := Fl.max_place (n := s.size) (by omega) hx hN hk
      rw [← hp] at e3
      have hm := fun ts t w => e2 ts t Tryd.prog w
      have hc := conv_of e3
      rw [decide_eq_true hk] at h2
      generalize Fl.tr x = T at hT e1
      have ha := fun w => run_float_arith (P := Tryd.prog) w .add 22 .f64 (Fl.W s.size) T S e1
      generalize Fl.W s.size = L at hW ha
      clear e1 e2 e3 hk h3 hp hN hx
      go_enter Tryd.func84, Tryd.ntmps84
      go_wp2_with fail
      refine (hT.out _).mono ?_; rintro e w' ⟨rfl, rfl⟩
      go_wp2_with fail
      go_ret
      exact ⟨rfl, rfl⟩
    · obtain ⟨e0, Z, e2, e3⟩ := Fl.min_place (n := s.size) (by omega) hx hN hk
      rw [← hp] at e3
      have hm := fun ts t w => e2 ts t Tryd.prog w
      have hc := conv_of e3
      rw [decide_eq_false hk] at h2
      generalize Fl.tr x = T at hT hm
      generalize Fl.W s.size = L at hW hm
      clear e0 e2 e3 hk h3 hp hN hx
      go_enter Tryd.func84, Tryd.ntmps84
      go_wp2_with fail
      refine (hT.out _).mono ?_; rintro e w' ⟨rfl, rfl⟩
      go_wp2_with fail
      go_ret
      exact ⟨rfl, rfl⟩
end Go.Proofs.YtajmdpndbfmdmaaDoor
