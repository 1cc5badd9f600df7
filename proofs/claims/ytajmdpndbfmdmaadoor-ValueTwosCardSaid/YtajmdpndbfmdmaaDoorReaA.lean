/-
  num.Read returns what the plain theory says. Conditions: texts of at most 70,000 bytes.
-/
import Derived.Test.YtajmdpndbfmdmaaDoorPlaD
import Derived.Test.YtajmdpndbfmdmaaDoorNumK
import Derived.Test.YtajmdpndbfmdmaaDoorModA
namespace Go.Proofs.YtajmdpndbfmdmaaDoor
open Go Go.RowKit

def valL (l : List UInt8) : Nat := l.foldl (fun a c => 10 * a + (c.toNat - 48)) 0
def dig (c : UInt8) : Bool := decide (48 ≤ c.toNat) && decide (c.toNat ≤ 57)
/-- What a text without blanks at its ends is worth. -/
def readD (neg : Bool) (d : List UInt8) : Option Int × Int :=
  if d = [] then (none, 0) else if d.all dig = false then (none, 0)
  else if 9007199254740991 < valL d ∨ (neg = true ∧ valL d = 0) then (some 0, 10) else (some (if neg then -(valL d : Int) else valL d), 0)
def readL : List UInt8 → Option Int × Int
  | [] => (some 0, 0)
  | c :: r => if c.toNat = 45 then readD true r else if c.toNat = 43 then readD false r else readD false (c :: r)

theorem valL_snoc (l : List UInt8) (c : UInt8) : valL (l ++ [c]) = 10 * valL l + (c.toNat - 48) := by unfold valL; rw [List.foldl_append]; rfl

/-- The worth of the first digits, cut at the greatest number of ours: and whether it was cut. -/
def RAt (d : List UInt8) (k : Nat) (v : Int) (g : Bool) : Prop :=
  (d.take k).all dig = true ∧ ((g = false ∧ v = valL (d.take k) ∧ valL (d.take k) ≤ 9007199254740991) ∨ (g = true ∧ v = 9007199254740991 ∧ 9007199254740991 < valL (d.take k)))

theorem RAt.start (d : List UInt8) : RAt d 0 0 false := ⟨rfl, .inl ⟨rfl, rfl, by show (0 : Nat) ≤ 9007199254740991; decide⟩⟩
theorem RAt.bound {d : List UInt8} {k : Nat} {v : Int} {g : Bool} (h : RAt d k v g) : 0 ≤ v ∧ v ≤ 9007199254740991 := by
  rcases h.2 with ⟨_, e, _⟩ | ⟨_, e, _⟩ <;> omega
theorem RAt.step {D : ByteArray} {k : Nat} {v : Int} {g : Bool} (h : RAt D.data.toList k v g) (hk : k < D.size) (u : UInt8) (hu : D[k]'hk = u) (h1 : 48 ≤ u.toNat) (h2 : u.toNat ≤ 57) :
    (9007199254740991 < v * 10 + ((u.toNat : Int) - 48) → RAt D.data.toList (k + 1) 9007199254740991 true) ∧ (¬ 9007199254740991 < v * 10 + ((u.toNat : Int) - 48) → RAt D.data.toList (k + 1) (v * 10 + ((u.toNat : Int) - 48)) g) := by
  have ht : D.data.toList.take (k + 1) = D.data.toList.take k ++ [u] := by rw [take_snoc D k hk, hu]
  have ha : (D.data.toList.take (k + 1)).all dig = true := by
    rw [ht, List.all_append, h.1]
    simp [dig, h1, h2]
  have hv : valL (D.data.toList.take (k + 1)) = 10 * valL (D.data.toList.take k) + (u.toNat - 48) := by rw [ht, valL_snoc]
  constructor
  · intro hb
    refine ⟨ha, .inr ⟨rfl, rfl, ?_⟩⟩
    rcases h.2 with ⟨_, e, _⟩ | ⟨_, e, _⟩ <;> omega
  · intro hb
    refine ⟨ha, ?_⟩
    rcases h.2 with ⟨e0, e, _⟩ | ⟨e0, e, _⟩
    · exact .inl ⟨e0, by omega, by omega⟩
    · omega
theorem not_dig {D : ByteArray} {k : Nat} (hk : k < D.size) (u : UInt8) (hu : D[k]'hk = u) (h : ¬ (48 ≤ u.toNat ∧ u.toNat ≤ 57)) (neg : Bool) : readD neg D.data.toList = (none, 0) := by
  have hm : u ∈ D.data.toList := by rw [← hu]; exact List.getElem_mem (by rw [size_list]; exact hk)
  unfold readD
  split
  · rfl
  · rw [if_pos]
    rw [← Bool.not_eq_true, List.all_eq_true]
    intro ha
    have := ha u hm
    simp [dig] at this
    omega
theorem RAt.fin {D : ByteArray} {k : Nat} {v : Int} {g : Bool} (h : RAt D.data.toList k v g) (hk : D.size ≤ k) (h0 : D.size ≠ 0) (neg : Bool) :
    (g = true ∧ readD neg D.data.toList = (some 0, 10)) ∨ (g = false ∧ neg = true ∧ v = 0 ∧ readD neg D.data.toList = (some 0, 10)) ∨
    (g = false ∧ (neg = true → v ≠ 0) ∧ readD neg D.data.toList = (some (if neg then -v else v), 0)) := by
  have ht : D.data.toList.take k = D.data.toList := List.take_of_length_le (by rw [size_list]; exact hk)
  unfold RAt at h
  rw [ht] at h
  have hne : D.data.toList ≠ [] := by intro e; have := size_list D; rw [e] at this; exact h0 this.symm
  unfold readD
  rw [if_neg hne, if_neg (by rw [h.1]; simp)]
  rcases h.2 with ⟨e0, e, h3⟩ | ⟨e0, e, h3⟩
  · by_cases hz : neg = true ∧ valL D.data.toList = 0
    · exact .inr (.inl ⟨e0, hz.1, by omega, by rw [if_pos (.inr hz)]⟩)
    · refine .inr (.inr ⟨e0, fun hn hv => hz ⟨hn, by omega⟩, ?_⟩)
      rw [if_neg (fun hc => hc.elim (fun h => by omega) hz), e]
  · exact .inl ⟨e0, by rw [if_pos (.inl h3)]⟩

theorem fits_W {n : Int} (h : n.natAbs < 9007199254740992) : Fl.Fits (Fl.W n) (some n) := ⟨rfl, h⟩
theorem fits_nan : Fl.Fits 9221120237041090561 none := ⟨by decide, by decide⟩
theorem fits_z : Fl.Fits 0 (some 0) := ⟨Fl.W_zero.symm, by decide⟩
end Go.Proofs.YtajmdpndbfmdmaaDoor
