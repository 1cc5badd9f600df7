/-
  str.Part returns what stands between two places; alive; the walk of bailifflaw02.StrBack. Conditions: strings of at most 70,000 bytes.
-/
import Derived.Test.YtajmdpndbfmdmaaDoorStrE
import Derived.Test.YtajmdpndbfmdmaaDoorPlc
namespace Go.Proofs.YtajmdpndbfmdmaaDoor
open Go Go.RowKit

def partS (s : ByteArray) (x y : Nat) : ByteArray := if Fl.placeS s.size y ≤ Fl.placeS s.size x then ByteArray.empty else s.extract (Fl.placeS s.size x) (Fl.placeS s.size y)

theorem part_any (s : ByteArray) (x y : Nat) (w : World) (hs : s.size ≤ 70000) (hx : x < 18446744073709551616) (hy : y < 18446744073709551616) :
    Calls Tryd.prog 27 #[.string s, .float .f64 x, .float .f64 y] w fun e w' => e = .returned (.string (partS s x y)) ∧ w = w' := by
  have q1 := Lib.hid (fun w' => place_any s x w' hs hx)
  have q2 := Lib.hid (fun w' => place_any s y w' hs hy)
  have ha := Fl.placeS_le s.size x
  have hb := Fl.placeS_le s.size y
  unfold partS
  generalize Fl.placeS s.size x = a at *
  generalize Fl.placeS s.size y = b at *
  by_cases c : b ≤ a
  · rw [if_pos c]
    have c' : (b : Int) ≤ a := by omega
    clear c
    go_enter Tryd.func27, Tryd.ntmps27
    go_wp2_with fail
    refine (q1.out _).mono ?_; rintro e w' ⟨rfl, rfl⟩
    go_wp2_with fail
    refine (q2.out _).mono ?_; rintro e w' ⟨rfl, rfl⟩
    go_wp2_with fail
    go_ret
    exact ⟨rfl, rfl⟩
  · rw [if_neg c]
    have c' : ¬ (b : Int) ≤ a := by omega
    have c2 : (a : Int) ≤ b := by omega
    have c3 : (b : Int) ≤ s.size := by omega
    go_enter Tryd.func27, Tryd.ntmps27
    go_wp2_with fail
    refine (q1.out _).mono ?_; rintro e w' ⟨rfl, rfl⟩
    go_wp2_with fail
    refine (q2.out _).mono ?_; rintro e w' ⟨rfl, rfl⟩
    go_wp2_with fail
    go_ret
    exact ⟨rfl, rfl⟩

theorem alive_part : partS ⟨#[97, 98, 99, 100, 101]⟩ 4607182418800017408 4613937818241073152 = ⟨#[98, 99]⟩ := by decide +kernel
theorem alive_quote : strOf (Sp.quoteL [97]) = ⟨#[34, 97, 34]⟩ := by decide +kernel

theorem alive_any (w : World) :
    Calls Tryd.prog 35 #[] w fun e w' => e = .returned (.bool true) ∧ Below w.heap.size w w' := by
  have q1 := Lib.hid (fun w' => part_any ⟨#[97, 98, 99, 100, 101]⟩ 4607182418800017408 4613937818241073152 w' (by decide) (by decide) (by decide))
  have q2 := Lib.hid (fun w' => quote_any ⟨#[97]⟩ w' (by decide))
  rw [alive_part] at q1
  rw [show strOf (Sp.quoteL (⟨#[97]⟩ : ByteArray).data.toList) = ⟨#[34, 97, 34]⟩ from alive_quote] at q2
  go_enter Tryd.func35, Tryd.ntmps35
  go_wp2_with fail
  refine (q1.out _).mono ?_; rintro e w' ⟨rfl, rfl⟩
  go_wp2_with fail
  refine (q2.out _).mono ?_; rintro e w' ⟨rfl, hb⟩
  have hb' := Lib.hid hb
  clear hb
  go_wp2
  go_ret
  exact ⟨rfl, hb'.out⟩

theorem strOf_get (l : List UInt8) (k : Nat) (h : k < (strOf l).size) (h' : k < l.length) : (strOf l)[k]'h = l[k]'h' := rfl

/-- A string, quoted: its length, its ends, its inside. -/
theorem quote_facts (s : ByteArray) : ∃ (Q B : ByteArray) (h2 : 2 ≤ Q.size), Q = strOf (Sp.quoteL s.data.toList) ∧ Q.size ≤ 4 * s.size + 2 ∧ Q[0]'(by omega) = 34 ∧ Q[Q.size - 1]'(by omega) = 34 ∧ Q.extract 1 (Q.size - 1) = B ∧
    B = strOf (Sp.body s.data.toList) ∧ (∀ k (h : k < Q.size), 32 ≤ (Q[k]'h).toNat ∧ (Q[k]'h).toNat ≤ 126) := by
  have hl : (strOf (Sp.quoteL s.data.toList)).size = (Sp.body s.data.toList).length + 2 := by
    rw [← size_list, strOf_list]; unfold Sp.quoteL; simp
  have hbl := Sp.body_length s.data.toList
  rw [size_list] at hbl
  refine ⟨strOf (Sp.quoteL s.data.toList), strOf (Sp.body s.data.toList), by omega, rfl, by omega, rfl, ?_, ?_, rfl, ?_⟩
  · have h' : (strOf (Sp.quoteL s.data.toList)).size - 1 < (Sp.quoteL s.data.toList).length := by rw [hl]; unfold Sp.quoteL; simp
    rw [strOf_get _ _ _ h']
    have e : ∀ (j : Nat) (hj : j < (Sp.quoteL s.data.toList).length), j = (Sp.body s.data.toList).length + 1 → (Sp.quoteL s.data.toList)[j]'hj = 34 := by
      intro j hj e
      subst e
      apply Option.some.inj
      rw [← List.getElem?_eq_getElem]
      show (34 :: (Sp.body s.data.toList ++ [34]))[(Sp.body s.data.toList).length + 1]? = some 34
      rw [List.getElem?_cons_succ, List.getElem?_append_right (Nat.le_refl _), Nat.sub_self]
      rfl
    exact e _ h' (by omega)
  · apply strOf_inj
    rw [Lib.extract_data, hl, strOf_list]
    unfold Sp.quoteL
    simp
  · intro k h
    exact Sp.quoteL_bounds s.data.toList _ (List.getElem_mem (by rw [hl] at h; unfold Sp.quoteL; simp; omega))

theorem plain_quoted (s : ByteArray) (h : s.size ≤ 4096) : plainV (strOf (Sp.body s.data.toList)) = (s, 0, 0) := by
  have hbl := Sp.body_length s.data.toList
  rw [size_list] at hbl
  have hl : (strOf (Sp.body s.data.toList)).size = (Sp.body s.data.toList).length := by rw [← size_list, strOf_list]
  unfold plainV
  rw [if_neg (by omega)]
  unfold plainR
  rw [strOf_list, Sp.plain_body _ _ _ _ (by omega), List.nil_append]
  show (if 4096 < s.data.toList.length then _ else _) = _
  rw [if_neg (by rw [size_list]; omega), strOf_data]

end Go.Proofs.YtajmdpndbfmdmaaDoor
