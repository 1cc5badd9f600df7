/-
  The walk of bailifflaw01.NumAgain. Conditions: the table of powers of ten lies.
-/
import Derived.Test.YtajmdpndbfmdmaaDoorAgaA
import Derived.Test.YtajmdpndbfmdmaaDoorAlv
import Derived.Test.YtajmdpndbfmdmaaDoorNuA
namespace Go.Proofs.YtajmdpndbfmdmaaDoor
open Go Go.RowKit

theorem textS_size (x : Nat) (h : Fl.may x = true) : (textS x).size ≤ 70000 := by
  cases Fl.make_of x with
  | nan hN h2 h3 => unfold textS; rw [if_pos hN]; decide
  | bad hN h2 h3 => rw [h3] at h; cases h
  | int n hn e h2 h3 h4 =>
    have hs : textS x = strOf (Lib.itoa n) := by unfold textS; rw [h4, h2]; rfl
    rw [hs, ← size_list, strOf_list]
    have := Lib.itoa_length_le n (by omega) (by omega)
    omega
theorem intS_W {n : Int} (h : -2147483648 ≤ n ∧ n ≤ 2147483647) : Fl.intS (Fl.W n) = n := by
  unfold Fl.intS
  rw [Fl.num?_W (by omega)]
  show wrap32 n = n
  unfold wrap32
  omega
theorem bits_and {x y : Nat} (h1 : Fl.may x = true) (h2 : Fl.may y = true) : bitsS 38 x y = (Fl.W (bits .and .i32 (Fl.intS x) (Fl.intS y)), 0) := by
  unfold bitsS; rw [if_pos ⟨h1, h2⟩, bitsV_eq, if_pos rfl]; rfl
theorem bits_or {x y : Nat} (h1 : Fl.may x = true) (h2 : Fl.may y = true) : bitsS 124 x y = (Fl.W (bits .or .i32 (Fl.intS x) (Fl.intS y)), 0) := by
  unfold bitsS; rw [if_pos ⟨h1, h2⟩, bitsV_eq, if_neg (by decide), if_pos rfl]; rfl
theorem bits_xor {x y : Nat} (h1 : Fl.may x = true) (h2 : Fl.may y = true) : bitsS 94 x y = (Fl.W (bits .xor .i32 (Fl.intS x) (Fl.intS y)), 0) := by
  unfold bitsS; rw [if_pos ⟨h1, h2⟩, bitsV_eq, if_neg (by decide), if_neg (by decide), if_pos rfl]; rfl

/-- What a number's text is worth: the number, or another that is none. -/
theorem again_fits {x z : Nat} (h : Fl.may x = true) (hz : Fl.Fits z (Fl.num? x)) : (Fl.isN x = true ∧ Fl.isN z = true) ∨ (Fl.isN x = false ∧ z = x) := by
  cases Fl.make_of x with
  | nan hN h2 h3 => rw [h2] at hz; exact .inl ⟨hN, hz.1⟩
  | bad hN h2 h3 => rw [h3] at h; cases h
  | int n hn e h2 h3 h4 => rw [h2] at hz; exact .inr ⟨h4, hz.1.trans e.symm⟩

set_option maxHeartbeats 4000000 in
set_option maxRecDepth 100000 in
theorem numAgain_walk (x y : Nat) (w0 : (Lit.float .f64 x).wf = true) (w1 : (Lit.float .f64 y).wf = true) (w : World) (htab : Lib.TabIs Tryd.prog w "internal/strconv.uint64pow10" .u64 Lib.pow10Tab) :
    Calls Tryd.prog 8 #[.float .f64 x, .float .f64 y] w fun e w' => e = .returned (.bool true) ∧ Below w.heap.size w w' := by
  have hx := float_lt w0
  have hy := float_lt w1
  clear w0 w1
  have hM := Lib.hid (fun w' => may_any x w' hx)
  have hK := Lib.hid (fun w' => may_any y w' hy)
  have v := Lib.hid (fun w' => alive_true w')
  cases m1 : Fl.may x with
  | false =>
    rw [m1] at hM
    clear m1 hx hy htab
    go_enter Tryd.func8, Tryd.ntmps8
    go_wp2_with fail
    refine (v.out _).mono ?_; rintro e y1 ⟨rfl, b1⟩
    have B1 := Lib.hid b1
    clear b1
    go_wp2_with fail
    refine (hM.out _).mono ?_; rintro e w' ⟨rfl, rfl⟩
    go_wp2_with fail
    go_ret
    exact ⟨rfl, B1.out⟩
  | true =>
    rw [m1] at hM
    cases m2 : Fl.may y with
    | false =>
      rw [m2] at hK
      clear m1 m2 hx hy htab
      go_enter Tryd.func8, Tryd.ntmps8
      go_wp2_with fail
      refine (v.out _).mono ?_; rintro e y1 ⟨rfl, b1⟩
      have B1 := Lib.hid b1
      clear b1
      go_wp2_with fail
      refine (hM.out _).mono ?_; rintro e w' ⟨rfl, rfl⟩
      go_wp2_with fail
      refine (hK.out _).mono ?_; rintro e w' ⟨rfl, rfl⟩
      go_wp2_with fail
      go_ret
      exact ⟨rfl, B1.out⟩
    | true =>
      rw [m2] at hK
      have q1 := Lib.hid (fun w' => text_any x w' hx)
      have q2 := Lib.hid (fun w' => read_any (textS x) w' (textS_size x m1))
      rw [read_text m1] at q2
      have q4 := Lib.hid (fun w' => none_any x w' hx)
      have rX := intS_range x
      have rY := intS_range y
      have bx := bits_i32 .xor (Fl.intS x) (Fl.intS y)
      have ba := bits_i32 .and (Fl.intS x) (Fl.intS y)
      have bo := bits_i32 .or (Fl.intS x) (Fl.intS y)
      have mx : Fl.may (Fl.W (bits .xor .i32 (Fl.intS x) (Fl.intS y))) = true := by rw [Fl.may_W, decide_eq_true (by omega)]
      have c1 := Lib.hid (fun w' => bits_any 94 x y w' hx hy)
      have c2 := Lib.hid (fun w' => bits_any 94 (Fl.W (bits .xor .i32 (Fl.intS x) (Fl.intS y))) y w' (Fl.W_lt (by omega)) hy)
      have c3 := Lib.hid (fun w' => bits_any 38 x y w' hx hy)
      have c4 := Lib.hid (fun w' => bits_any 124 x y w' hx hy)
      have d1 := Lib.hid (fun w' => int_any x w' hx)
      have d2 := Lib.hid (fun w' => int_any y w' hy)
      rw [bits_xor mx m2, intS_W bx, xor_i32 rX] at c2
      rw [bits_xor m1 m2] at c1
      rw [bits_and m1 m2] at c3
      rw [bits_or m1 m2] at c4
      have hsum := and_or_i32 rX rY
      generalize bits .xor .i32 (Fl.intS x) (Fl.intS y) = X at *
      generalize bits .and .i32 (Fl.intS x) (Fl.intS y) = P at *
      generalize bits .or .i32 (Fl.intS x) (Fl.intS y) = O at *
      have hag := Lib.hid (fun z (h : Fl.Fits z (Fl.num? x)) => again_fits m1 h)
      generalize Fl.intS x = a at *
      generalize Fl.intS y = b at *
      have hrun1 := fun w' => run_float_arith (P := Tryd.prog) w' .add 22 .f64 _ _ _ (Fl.floatBits_add_W (a := a) (b := b) (by omega) (by omega))
      have hrun2 := fun w' => run_float_arith (P := Tryd.prog) w' .add 22 .f64 _ _ _ (Fl.floatBits_add_W (a := P) (b := O) (by omega) (by omega))
      rw [hsum] at hrun2
      have fa := Fl.floatOfInt_W a
      have fb := Fl.floatOfInt_W b
      have e1 := Fl.ord_eql (Fl.W_lt (n := a) (by omega)) (Fl.W_lt (n := a) (by omega))
      rw [Fl.feq_W (by omega) (by omega), decide_eq_true rfl] at e1
      have e2 := Fl.ord_eql (Fl.W_lt (n := a + b) (by omega)) (Fl.W_lt (n := a + b) (by omega))
      rw [Fl.feq_W (by omega) (by omega), decide_eq_true rfl] at e2
      obtain ⟨S, hS⟩ : ∃ S, S = Fl.W (a + b) := ⟨_, rfl⟩
      rw [← hS] at hrun1 hrun2 e2
      obtain ⟨A, hA⟩ : ∃ A, A = Fl.W a := ⟨_, rfl⟩
      rw [← hA] at hrun1 e1 c2 fa
      obtain ⟨B, hB⟩ : ∃ B, B = Fl.W b := ⟨_, rfl⟩
      rw [← hB] at hrun1 fb
      generalize Fl.W P = PP at *
      generalize Fl.W O = OO at *
      generalize Fl.W X = XX at *
      have hne := Fl.ord_neq hx hx
      rw [Fl.feq_self] at hne
      have hne' := Lib.hid hne
      have ht := Lib.hid htab
      generalize textS x = T at *
      clear hne hS hA hB htab hsum rX rY bx ba bo mx m1 m2 hx hy
      go_enter Tryd.func8, Tryd.ntmps8
      go_wp2_with fail
      refine (v.out _).mono ?_; rintro e y1 ⟨rfl, b1⟩
      have B1 := Lib.hid b1
      clear b1
      go_wp2_with fail
      refine (hM.out _).mono ?_; rintro e w' ⟨rfl, rfl⟩
      go_wp2_with fail
      refine (hK.out _).mono ?_; rintro e w' ⟨rfl, rfl⟩
      go_wp2_with fail
      refine (q1.out _ (tab_below ht.out B1.out (tab_size ht.out))).mono ?_; rintro e y2 ⟨rfl, b2⟩
      have B2 := Lib.hid (B1.out.trans (b2.mono B1.out.size))
      clear b2
      go_wp2_with fail
      refine (q2.out _).mono ?_; rintro e y3 ⟨z, rfl, hz, b3⟩
      have B3 := Lib.hid (B2.out.trans (b3.mono B2.out.size))
      have hzl := Fl.Fits_lt hz
      have q3 := Lib.hid (fun w' => none_any z w' hzl)
      have hcase := hag.out z hz
      clear b3 hz hzl
      rcases hcase with ⟨n1, n2⟩ | ⟨n1, rfl⟩
      · rw [n1] at q4
        rw [n2] at q3
        clear n1 n2
        go_wp2_with fail
        refine (q3.out _).mono ?_; rintro e w' ⟨rfl, rfl⟩
        go_wp2_with fail
        refine (q4.out _).mono ?_; rintro e w' ⟨rfl, rfl⟩
        go_wp2_with fail
        refine (q4.out _).mono ?_; rintro e w' ⟨rfl, rfl⟩
        go_wp2_with fail
        refine (c1.out _).mono ?_; rintro e w' ⟨rfl, rfl⟩
        go_wp2_with fail
        refine (c2.out _).mono ?_; rintro e w' ⟨rfl, rfl⟩
        go_wp2_with fail
        refine (c3.out _).mono ?_; rintro e w' ⟨rfl, rfl⟩
        go_wp2_with fail
        refine (c4.out _).mono ?_; rintro e w' ⟨rfl, rfl⟩
        go_wp2_with fail
        refine (d1.out _).mono ?_; rintro e w' ⟨rfl, rfl⟩
        go_wp2_with fail
        refine (d2.out _).mono ?_; rintro e w' ⟨rfl, rfl⟩
        go_wp2_with fail
        refine (d1.out _).mono ?_; rintro e w' ⟨rfl, rfl⟩
        go_wp2
        go_ret
        exact ⟨by simp, B3.out⟩
      · rw [n1] at q3 q4 hne'
        have hne := hne'.out
        clear n1
        go_wp2_with fail
        refine (q3.out _).mono ?_; rintro e w' ⟨rfl, rfl⟩
        go_wp2_with fail
        refine (q4.out _).mono ?_; rintro e w' ⟨rfl, rfl⟩
        go_wp2_with fail
        refine (q4.out _).mono ?_; rintro e w' ⟨rfl, rfl⟩
        go_wp2_with fail
        refine (c1.out _).mono ?_; rintro e w' ⟨rfl, rfl⟩
        go_wp2_with fail
        refine (c2.out _).mono ?_; rintro e w' ⟨rfl, rfl⟩
        go_wp2_with fail
        refine (c3.out _).mono ?_; rintro e w' ⟨rfl, rfl⟩
        go_wp2_with fail
        refine (c4.out _).mono ?_; rintro e w' ⟨rfl, rfl⟩
        go_wp2_with fail
        refine (d1.out _).mono ?_; rintro e w' ⟨rfl, rfl⟩
        go_wp2_with fail
        refine (d2.out _).mono ?_; rintro e w' ⟨rfl, rfl⟩
        go_wp2_with fail
        refine (d1.out _).mono ?_; rintro e w' ⟨rfl, rfl⟩
        go_wp2
        go_ret
        exact ⟨by simp, B3.out⟩
end Go.Proofs.YtajmdpndbfmdmaaDoor
