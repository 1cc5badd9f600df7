/-
  str.Less, Trim and the document's Less, Bare and Trim return what the plain theory says. Conditions: strings of at most 70,000 bytes.
-/
import Derived.Test.YtajmdpndbfmdmaaDoorPlaB
import Derived.Deep.QuietTactic
import Derived.BigQuiet
import Derived.WalkSmall
import Derived.Shelf.Strings.SlTrimAscii
namespace Go.Proofs.YtajmdpndbfmdmaaDoor
open Go Go.RowKit

def lessV (s t : ByteArray) : Bool := Op.bytesLess s.data.toList t.data.toList

theorem less_str (s t : ByteArray) (w : World) :
    Calls Tryd.prog 31 #[.string s, .string t] w fun e w' => e = .returned (.bool (lessV s t)) ∧ w = w' := by
  go_enter Tryd.func31, Tryd.ntmps31
  go_wp2
  go_ret
  exact ⟨by unfold lessV; rw [← Lib.toList_data, ← Lib.toList_data]; rfl, rfl⟩

theorem less_nil (l : List UInt8) : Op.bytesLess l [] = false := by cases l <;> rfl

theorem less_end {a b : ByteArray} {k : Nat} {R : Bool} (ha : k ≤ a.size) (hb : k ≤ b.size) (h : ¬ (k < a.size ∧ k < b.size)) (hR : Op.bytesLess (a.data.toList.drop k) (b.data.toList.drop k) = R) :
    R = decide ((a.size : Int) < b.size) := by
  rw [← hR]
  by_cases h1 : k < b.size
  · have : k = a.size := by omega
    rw [List.drop_of_length_le (by rw [size_list]; omega), drop_cons b k h1, decide_eq_true (by omega)]
    rfl
  · rw [List.drop_of_length_le (l := b.data.toList) (by rw [size_list]; omega), less_nil, decide_eq_false (by omega)]

theorem less_step {a b : ByteArray} {k : Nat} {R : Bool} (ha : k < a.size) (hb : k < b.size) (hR : Op.bytesLess (a.data.toList.drop k) (b.data.toList.drop k) = R) (x y : UInt8) (hx : a[k]'ha = x) (hy : b[k]'hb = y) :
    (x.toNat = y.toNat → Op.bytesLess (a.data.toList.drop (k + 1)) (b.data.toList.drop (k + 1)) = R) ∧ (x.toNat ≠ y.toNat → R = decide ((x.toNat : Int) < y.toNat)) := by
  rw [drop_cons a k ha, drop_cons b k hb, hx, hy] at hR
  simp only [Op.bytesLess] at hR
  constructor
  · intro h
    have hxy : x = y := UInt8.toNat_inj.1 h
    subst hxy
    have hlt : decide (x < x) = false := by simp
    rw [hlt] at hR
    simpa using hR
  · intro h
    have hxy : (x == y) = false := by rw [beq_eq_false_iff_ne]; intro e; exact h (by rw [e])
    rw [hxy] at hR
    rw [← hR]
    simp only [Bool.false_and, Bool.or_false]
    rw [decide_eq_decide, UInt8.lt_iff_toNat_lt]
    omega

set_option maxRecDepth 100000 in
theorem refLess_str (a b : ByteArray) (w : World) (ha : a.size ≤ 70000) (hb : b.size ≤ 70000) :
    Calls Tryd.prog 32 #[.string a, .string b] w fun e w' => e = .returned (.bool (lessV a b)) ∧ Below w.heap.size w w' := by
  obtain ⟨R, hR⟩ : ∃ R, Op.bytesLess (a.data.toList.drop 0) (b.data.toList.drop 0) = R := ⟨_, rfl⟩
  rw [show lessV a b = R from hR]
  have hR' := Lib.hid hR
  clear hR
  go_enter Tryd.func32, Tryd.ntmps32
  go_wp2_with fail
  go_loopw [5] (fun i wr => ∃ k : Nat, k ≤ a.size ∧ k ≤ b.size ∧ i = .int .i64 k ∧ Hid (Op.bytesLess (a.data.toList.drop k) (b.data.toList.drop k) = R) ∧ Hid (Below w.heap.size w wr)) (fun i _ => ((a.size : Int) - intOf i).toNat)
  case atStart => exact ⟨0, by omega, by omega, rfl, hR', Lib.hid (Below.refl _ _)⟩
  case round =>
    obtain ⟨k, hka, hkb, rfl, H, HB⟩ := hrel
    by_cases c : k < a.size ∧ k < b.size
    · obtain ⟨ca, cb⟩ := c
      have ca' : (k : Int) < a.size := by omega
      have cb' : (k : Int) < b.size := by omega
      obtain ⟨x, hx⟩ : ∃ x, a[k]'ca = x := ⟨_, rfl⟩
      obtain ⟨y, hy⟩ : ∃ y, b[k]'cb = y := ⟨_, rfl⟩
      obtain ⟨s1, s2⟩ := less_step ca cb H.out x y hx hy
      by_cases e : x.toNat = y.toNat
      · have hn := Lib.hid (s1 e)
        have e' : ((x.toNat : Int) != (y.toNat : Int)) = false := by simp; omega
        have e2 : ((x.toNat : Int) == (y.toNat : Int)) = true := by simp; omega
        clear s1 s2 e
        go_wp2_with fail
        go_quiet (fail)
        have HB2 := Lib.hid (below_drewN HB.out nq)
        go_wp2_with fail
        exact ⟨⟨k + 1, by omega, by omega, by simp, hn, HB2⟩, by simp [intOf]; omega⟩
      · have hn := Lib.hid (s2 e)
        have e' : ((x.toNat : Int) != (y.toNat : Int)) = true := by simp; omega
        have e2 : ((x.toNat : Int) == (y.toNat : Int)) = false := by simp; omega
        clear s1 s2 e
        go_wp2_with fail
        go_quiet (fail)
        have HB2 := Lib.hid (below_drewN HB.out nq)
        go_wp2_with fail
        go_quiet (fail)
        have HB3 := Lib.hid (below_drewN HB2.out nq)
        go_wp2_with fail
        go_ret
        exact ⟨by rw [hn.out]; simp, HB3.out⟩
    · have hn := Lib.hid (less_end hka hkb c H.out)
      by_cases ca : k < a.size
      · have ca' : (k : Int) < a.size := by omega
        have cb' : ¬ (k : Int) < b.size := by omega
        clear c
        go_wp2_with fail
        go_ret
        exact ⟨by rw [hn.out]; simp, HB.out⟩
      · have ca' : ¬ (k : Int) < a.size := by omega
        clear c
        go_wp2_with fail
        go_ret
        exact ⟨by rw [hn.out]; simp, HB.out⟩
def blanks : List UInt8 := [9, 10, 13, 32]
def trimV (s : ByteArray) : ByteArray := strOf (Lib.trimS s.data.toList blanks)

theorem trim_str (s : ByteArray) (w : World) (hs : s.size ≤ 70000) :
    Calls Tryd.prog 33 #[.string s] w fun e w' => e = .returned (.string (trimV s)) ∧ Below w.heap.size w w' := by
  have h := Any.strings_Trim_laid Tryd.lays160 (by kernel_rfl) s ⟨#[9, 10, 13, 32]⟩ w (by omega) (by decide) (Go.Proofs.ascii_of_all (by decide))
  have q : Hid (Calls Tryd.prog 87 #[.string s, .string ⟨#[9, 10, 13, 32]⟩] w fun e w' => e = .returned (.string (trimV s)) ∧ Below w.heap.size w w') := h
  clear h
  go_enter Tryd.func33, Tryd.ntmps33
  go_wp2_with fail
  refine q.out.mono ?_; rintro e w' ⟨rfl, hb⟩
  have hb' := Lib.hid hb
  clear hb
  go_wp2
  go_ret
  exact ⟨rfl, hb'.out⟩

set_option maxRecDepth 100000 in
theorem blank_any (c : UInt8) (w : World) :
    Calls Tryd.prog 129 #[.int .u8 c.toNat] w fun e w' => e = .returned (.bool (blanks.contains c)) ∧ w = w' := by
  have e : blanks.contains c = (decide (c.toNat = 9) || decide (c.toNat = 10) || decide (c.toNat = 13) || decide (c.toNat = 32)) := by
    have h : ∀ n : Nat, n < 256 → blanks.contains (UInt8.ofNat n) = (decide (n = 9) || decide (n = 10) || decide (n = 13) || decide (n = 32)) := by decide
    have := h c.toNat c.toNat_lt
    rwa [UInt8.ofNat_toNat] at this
  have he := Lib.hid e
  clear e
  by_cases c1 : c.toNat = 9
  · have d1 : ((c.toNat : Int) == 9) = true := by simp; omega
    go_enter Tryd.func129, Tryd.ntmps129
    go_wp2
    go_ret
    exact ⟨by rw [he.out]; simp [c1], rfl⟩
  · have d1 : ((c.toNat : Int) == 9) = false := by simp; omega
    by_cases c2 : c.toNat = 10
    · have d2 : ((c.toNat : Int) == 10) = true := by simp; omega
      go_enter Tryd.func129, Tryd.ntmps129
      go_wp2
      go_ret
      exact ⟨by rw [he.out]; simp [c2], rfl⟩
    · have d2 : ((c.toNat : Int) == 10) = false := by simp; omega
      by_cases c3 : c.toNat = 13
      · have d3 : ((c.toNat : Int) == 13) = true := by simp; omega
        go_enter Tryd.func129, Tryd.ntmps129
        go_wp2
        go_ret
        exact ⟨by rw [he.out]; simp [c3], rfl⟩
      · have d3 : ((c.toNat : Int) == 13) = false := by simp; omega
        by_cases c4 : c.toNat = 32
        · have d4 : ((c.toNat : Int) == 32) = true := by simp; omega
          go_enter Tryd.func129, Tryd.ntmps129
          go_wp2
          go_ret
          exact ⟨by rw [he.out]; simp [c4], rfl⟩
        · have d4 : ((c.toNat : Int) == 32) = false := by simp; omega
          go_enter Tryd.func129, Tryd.ntmps129
          go_wp2
          go_ret
          exact ⟨by rw [he.out]; simp [c1, c2, c3, c4], rfl⟩
end Go.Proofs.YtajmdpndbfmdmaaDoor
