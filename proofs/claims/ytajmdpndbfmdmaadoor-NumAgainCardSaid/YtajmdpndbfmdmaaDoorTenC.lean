/-
  The document's Text; the walk of bailifflaw01.NumTexts. Conditions: the table of powers of ten lies.
-/
import Derived.Test.YtajmdpndbfmdmaaDoorTenB
import Derived.Test.YtajmdpndbfmdmaaDoorReaC
import Derived.Test.YtajmdpndbfmdmaaDoorNumG
import Derived.Lib.LaidTab
import Derived.WalkSmall
namespace Go.Proofs.YtajmdpndbfmdmaaDoor
open Go Go.RowKit

theorem refText_any (x : Nat) (w : World) (hx : x < 18446744073709551616) :
    Calls Tryd.prog 43 #[.float .f64 x] w fun e w' => e = .returned (.string (textS x)) ∧ w = w' := by
  have hM := Lib.hid (fun w' => whole_any x w' hx)
  have h1 := Fl.ord_neq hx hx
  rw [Fl.feq_self] at h1
  cases Fl.make_of x with
  | nan hN h2 h3 =>
    rw [hN] at h1
    have hs := Lib.hid (show textS x = ⟨#[78, 97, 78]⟩ from by unfold textS; rw [if_pos hN])
    clear hN h2 h3 hx hM
    go_enter Tryd.func43, Tryd.ntmps43
    go_wp2
    go_ret
    exact ⟨by rw [hs.out]; rfl, rfl⟩
  | bad hN h2 h3 =>
    rw [hN] at h1
    have hw : Fl.wholeS x = (0, false) := by unfold Fl.wholeS; rw [h2]; rfl
    rw [hw] at hM
    have hs := Lib.hid (show textS x = ⟨#[]⟩ from by unfold textS; rw [hN, h2]; rfl)
    clear hN h2 h3 hx hw
    go_enter Tryd.func43, Tryd.ntmps43
    go_wp2_with fail
    refine (hM.out _).mono ?_; rintro e w' ⟨rfl, rfl⟩
    go_wp2
    go_ret
    exact ⟨by rw [hs.out]; rfl, rfl⟩
  | int n hn e h2 h3 h4 =>
    rw [h4] at h1
    have hw : Fl.wholeS x = (n, true) := by unfold Fl.wholeS; rw [h2]; rfl
    rw [hw] at hM
    have hs := Lib.hid (show textS x = strOf (Lib.itoa n) from by unfold textS; rw [h4, h2]; rfl)
    have q := Lib.hid (fun w' => tens_any n w' (by omega) (by omega))
    subst e
    clear h2 h3 h4 hx hw
    go_enter Tryd.func43, Tryd.ntmps43
    go_wp2_with fail
    refine (hM.out _).mono ?_; rintro e w' ⟨rfl, rfl⟩
    go_wp2_with fail
    refine (q.out _).mono ?_; rintro e w' ⟨rfl, rfl⟩
    go_wp2
    go_ret
    exact ⟨by rw [hs.out]; rfl, rfl⟩
theorem alike_fits {z u : Nat} {v : Option Int} (h : Fl.Fits z v) (g : Fl.Fits u v) : Alike z u := by
  refine ⟨Fl.Fits_lt h, Fl.Fits_lt g, ?_⟩
  cases v with
  | none => exact .inr ⟨h.1, g.1⟩
  | some n => exact .inl (h.1.trans g.1.symm)

theorem pow_global : Tryd.prog.globalNamed "internal/strconv.uint64pow10" = some 2 := by kernel_rfl
theorem tab_size {w : World} (h : Lib.TabIs Tryd.prog w "internal/strconv.uint64pow10" .u64 Lib.pow10Tab) : 2 < w.heap.size := by
  have hc := h.cell pow_global 0 (by decide)
  rcases Nat.lt_or_ge 2 w.heap.size with h' | h'
  · exact h'
  · simp [World.cell?, Array.getElem?_eq_none h'] at hc
theorem tab_below {B : Nat} {w w' : World} (h : Lib.TabIs Tryd.prog w "internal/strconv.uint64pow10" .u64 Lib.pow10Tab) (hb : Below B w w') (h2 : 2 < B) :
    Lib.TabIs Tryd.prog w' "internal/strconv.uint64pow10" .u64 Lib.pow10Tab := by
  unfold Lib.TabIs at h ⊢
  exact var?_below hb pow_global h2 h

theorem numTexts_walk (x : Nat) (s : ByteArray) (w0 : (Lit.float .f64 x).wf = true) (_w1 : s.size ≤ maxLen) (w : World) (htab : Lib.TabIs Tryd.prog w "internal/strconv.uint64pow10" .u64 Lib.pow10Tab) :
    Calls Tryd.prog 7 #[.float .f64 x, .string s] w fun e w' => e = .returned (.bool true) ∧ Below w.heap.size w w' := by
  have hx := float_lt w0
  clear w0
  by_cases c : 5000 < s.size
  · have d : 5000 < (s.size : Int) := by omega
    clear htab
    go_enter Tryd.func7, Tryd.ntmps7
    go_wp2
    go_ret
    exact ⟨rfl, Below.refl _ _⟩
  · have d : ¬ 5000 < (s.size : Int) := by omega
    have q1 := Lib.hid (fun w' => read_any s w' (by omega))
    have q2 := Lib.hid (fun w' => refRead_any s w' (by omega))
    have q3 := Lib.hid (fun w' => text_any x w' hx)
    have q4 := Lib.hid (fun w' => refText_any x w' hx)
    obtain ⟨p, hp⟩ : ∃ p, p = readL (trimV s).data.toList := ⟨_, rfl⟩
    rw [← hp] at q1 q2
    generalize textS x = T at q3 q4
    have ht := Lib.hid htab
    clear htab hp c
    go_enter Tryd.func7, Tryd.ntmps7
    go_wp2_with fail
    refine (q1.out _).mono ?_; rintro e w1 ⟨z, rfl, hz, b1⟩
    have B1 := Lib.hid b1
    have hz' := Lib.hid hz
    clear b1 hz
    go_wp2_with fail
    refine (q2.out _).mono ?_; rintro e w2 ⟨u, rfl, hu, b2⟩
    have B2 := Lib.hid (B1.out.trans (b2.mono B1.out.size))
    have hu' := Lib.hid hu
    clear b2 hu
    have hA := Lib.hid (fun w' => told_true z u p.2 w' (alike_fits hz'.out hu'.out))
    go_wp2_with fail
    refine (hA.out _).mono ?_; rintro e w' ⟨rfl, rfl⟩
    go_wp2_with fail
    refine (q3.out _ (tab_below ht.out B2.out (tab_size ht.out))).mono ?_; rintro e w3 ⟨rfl, b3⟩
    have B3 := Lib.hid (B2.out.trans (b3.mono B2.out.size))
    clear b3
    go_wp2_with fail
    refine (q4.out _).mono ?_; rintro e w' ⟨rfl, rfl⟩
    go_wp2
    go_ret
    exact ⟨by simp, B3.out⟩
end Go.Proofs.YtajmdpndbfmdmaaDoor
