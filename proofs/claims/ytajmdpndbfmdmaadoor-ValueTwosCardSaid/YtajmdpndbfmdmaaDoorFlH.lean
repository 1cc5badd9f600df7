/-
  What the operations of the program's numbers come to, case by case, and when an operation on floats has no answer. Conditions: each lemma's own hypotheses.
-/
import Derived.Test.YtajmdpndbfmdmaaDoorFlG
namespace Fl
open Ieee Go

theorem may_W {n : Int} : may (W n) = decide (n.natAbs < 9007199254740992) := by
  by_cases h : n.natAbs < 9007199254740992
  · rw [decide_eq_true h]; unfold may; rw [num?_W h]; simp
  · obtain ⟨_, h2, h3, _, _⟩ := W_big (n := n) (by omega)
    rw [decide_eq_false h]; unfold may; rw [h2, h3]; rfl
theorem may_nzero : may 9223372036854775808 = false := by unfold may; rw [num?_none_zero]; decide
theorem may_zero : may 0 = true := by have := may_W (n := 0); rw [W_zero] at this; rw [this]; decide
theorem may_inf (s : Bool) : may (D.word s 9218868437227405312) = false := by unfold may; rw [num?_inf, isN_inf]; rfl
theorem may_nan {x : Nat} (h : isN x = true) : may x = true := by unfold may; rw [h]; rfl
theorem fits_zero : Fits 0 (some 0) := ⟨W_zero.symm, by decide⟩

/-- What 'done' makes of a word: the pair p. -/
def Done (R : Nat) (p : Option Int × Int) : Prop := R < 18446744073709551616 ∧ ((may R = true ∧ Fits R p.1 ∧ p.2 = 0) ∨ (may R = false ∧ p = (some 0, 10)))

theorem done_W (n : Int) : Done (W n) (lim n) := by
  refine ⟨D.nearest_lt (decide (n < 0)) n.natAbs 0, ?_⟩
  unfold lim
  by_cases h : n.natAbs < 9007199254740992
  · rw [if_pos h]; exact .inl ⟨by rw [may_W, decide_eq_true h], ⟨rfl, h⟩, rfl⟩
  · rw [if_neg h]; exact .inr ⟨by rw [may_W, decide_eq_false h], rfl⟩
theorem done_nan {r : Nat} (h : isN r = true) (h2 : r < 18446744073709551616) : Done r (none, 0) := ⟨h2, .inl ⟨may_nan h, ⟨h, h2⟩, rfl⟩⟩
theorem done_nzero : Done 9223372036854775808 (some 0, 10) := ⟨by decide, .inr ⟨may_nzero, rfl⟩⟩
theorem done_mul {a b : Int} : Done (if a * b = 0 then (if a < 0 ∨ b < 0 then 9223372036854775808 else W 0) else W (a * b)) (mulS a b) := by
  unfold mulS
  by_cases h : a * b = 0
  · rw [if_pos h]
    by_cases h2 : a < 0 ∨ b < 0
    · rw [if_pos h2, if_pos ⟨h, h2⟩]; exact done_nzero
    · rw [if_neg h2, if_neg (fun h' => h2 h'.2), h]; exact done_W 0
  · rw [if_neg h, if_neg (fun h' => h h'.1)]; exact done_W _

theorem read_nan {x : Nat} (hx : x < 18446744073709551616) (h : isN x = true) : ∃ s f, D.read x = .nan s f := by
  have := isN_read hx
  rw [h] at this
  cases hd : D.read x with
  | nan s f => exact ⟨s, f, rfl⟩
  | number => rw [hd] at this; cases this
  | infinity => rw [hd] at this; cases this

section
variable {x y : Nat} (hx : x < 18446744073709551616) (hy : y < 18446744073709551616) (h : isN x = true ∨ isN y = true)
include hx hy h
theorem add_none : floatBits .add .f64 x y = none := by
  show D.add x y = none
  unfold Format.add
  rcases h with h | h
  · obtain ⟨s, f, e⟩ := read_nan hx h
    rw [e]; cases D.read y <;> rfl
  · obtain ⟨s, f, e⟩ := read_nan hy h
    rw [e]; cases D.read x <;> rfl
theorem sub_none : floatBits .sub .f64 x y = none := by
  show D.sub x y = none
  unfold Format.sub
  rcases h with h | h
  · obtain ⟨s, f, e⟩ := read_nan hx h
    rw [e]; cases D.read y <;> rfl
  · obtain ⟨s, f, e⟩ := read_nan hy h
    rw [e]; cases D.read x <;> rfl
theorem mul_none : floatBits .mul .f64 x y = none := by
  show D.mul x y = none
  unfold Format.mul
  rcases h with h | h
  · obtain ⟨s, f, e⟩ := read_nan hx h
    rw [e]; cases D.read y <;> rfl
  · obtain ⟨s, f, e⟩ := read_nan hy h
    rw [e]; cases D.read x <;> rfl
theorem div_none : floatBits .quo .f64 x y = none := by
  show D.div x y = none
  unfold Format.div
  rcases h with h | h
  · obtain ⟨s, f, e⟩ := read_nan hx h
    rw [e]; cases D.read y <;> rfl
  · obtain ⟨s, f, e⟩ := read_nan hy h
    rw [e]; cases D.read x <;> rfl
end
theorem div_none_zero : floatBits .quo .f64 0 0 = none := by decide +kernel

/-- A NaN with the other sign is one. -/
theorem isN_neg {x : Nat} (hx : x < 18446744073709551616) : isN (Op.negFloat .f64 x) = isN x ∧ Op.negFloat .f64 x < 18446744073709551616 := by
  obtain ⟨s, r, e, hr, hm, _, _⟩ := as_word hx
  have h : Op.negFloat .f64 x = D.word (!s) r := by
    show x ^^^ 9223372036854775808 = _
    rw [e, neg_word s hr]
  rw [h]
  refine ⟨?_, word_lt2 _ hr⟩
  unfold isN
  have h2 : D.word (!s) r % 9223372036854775808 = r := (word_div (!s) hr).2
  rw [h2, hm]

theorem two_bad {f : Int → Int → Option Int × Int} {x y : Nat} (h : may x = false ∨ may y = false) : two f x y = (some 0, 2) := by
  unfold two
  rw [if_neg]
  rintro ⟨h1, h2⟩
  rcases h with h | h
  · rw [h1] at h; cases h
  · rw [h2] at h; cases h
theorem two_nan {f : Int → Int → Option Int × Int} {x y : Nat} (h1 : may x = true) (h2 : may y = true) (h : num? x = none ∨ num? y = none) : two f x y = (none, 0) := by
  unfold two
  rw [if_pos ⟨h1, h2⟩]
  rcases h with h | h
  · rw [h]
  · rw [h]; cases num? x <;> rfl
theorem two_int {f : Int → Int → Option Int × Int} {x y : Nat} {a b : Int} (h1 : may x = true) (h2 : may y = true) (ha : num? x = some a) (hb : num? y = some b) : two f x y = f a b := by
  unfold two
  rw [if_pos ⟨h1, h2⟩, ha, hb]
end Fl
