/-
  Plain facts of NumAgain: a number's text is read back; and, or, either-or of words of 32 bits. Conditions: each lemma's own hypotheses.
-/
import Derived.Test.YtajmdpndbfmdmaaDoorRe
import Derived.Test.YtajmdpndbfmdmaaDoorPl
namespace Go.Proofs.YtajmdpndbfmdmaaDoor
open Go Go.RowKit

theorem nat_and_or (a b : Nat) : (a &&& b) + (a ||| b) = a + b := by
  induction a using Nat.strongRecOn generalizing b with
  | ind a ih =>
    by_cases h : a = 0
    · subst h; simp
    · have i := ih (a / 2) (by omega) (b / 2)
      have h1 : (a &&& b) / 2 = a / 2 &&& b / 2 := Nat.and_div_two
      have h2 : (a ||| b) / 2 = a / 2 ||| b / 2 := Nat.or_div_two
      have h3 : (a &&& b) % 2 = (a % 2) &&& (b % 2) := by have := @Nat.and_mod_two_pow a b 1; simpa using this
      have h4 : (a ||| b) % 2 = (a % 2) ||| (b % 2) := by have := @Nat.or_mod_two_pow a b 1; simpa using this
      rcases Nat.mod_two_eq_zero_or_one a with ha | ha <;> rcases Nat.mod_two_eq_zero_or_one b with hb | hb <;> rw [ha, hb] at h3 h4
      · have g3 : (a &&& b) % 2 = 0 := h3
        have g4 : (a ||| b) % 2 = 0 := h4
        omega
      · have g3 : (a &&& b) % 2 = 0 := h3
        have g4 : (a ||| b) % 2 = 1 := h4
        omega
      · have g3 : (a &&& b) % 2 = 0 := h3
        have g4 : (a ||| b) % 2 = 1 := h4
        omega
      · have g3 : (a &&& b) % 2 = 1 := h3
        have g4 : (a ||| b) % 2 = 1 := h4
        omega
theorem all_bytes {P : UInt8 → Prop} (h : ∀ n, n < 256 → P (UInt8.ofNat n)) (c : UInt8) : P c := by
  have := h c.toNat c.toNat_lt
  rwa [UInt8.ofNat_toNat] at this

theorem wrap_i32 (x : BitVec 32) : IntKind.i32.wrap (x.toNat : Int) = x.toInt := by
  rw [BitVec.toInt_eq_toNat_cond]
  have := x.isLt
  show (if (true && decide ((x.toNat : Int) % 4294967296 ≥ 2147483648)) = true then (x.toNat : Int) % 4294967296 - 4294967296 else (x.toNat : Int) % 4294967296) = if 2 * x.toNat < 4294967296 then (x.toNat : Int) else (x.toNat : Int) - 4294967296
  rw [Bool.true_and]
  by_cases c : 2 * x.toNat < 4294967296
  · rw [if_pos c, if_neg (by simp; omega)]; omega
  · rw [if_neg c, if_pos (by simp; omega)]; omega

theorem and_or_i32 {a b : Int} (ha : -2147483648 ≤ a ∧ a ≤ 2147483647) (hb : -2147483648 ≤ b ∧ b ≤ 2147483647) : bits .and .i32 a b + bits .or .i32 a b = a + b := by
  show IntKind.i32.wrap ((BitVec.ofInt 32 a &&& BitVec.ofInt 32 b).toNat : Int) + IntKind.i32.wrap ((BitVec.ofInt 32 a ||| BitVec.ofInt 32 b).toNat : Int) = _
  rw [wrap_i32, wrap_i32]
  have ea : (BitVec.ofInt 32 a).toInt = a := BitVec.toInt_ofInt_eq_self (by decide) (by simp; omega) (by simp; omega)
  have eb : (BitVec.ofInt 32 b).toInt = b := BitVec.toInt_ofInt_eq_self (by decide) (by simp; omega) (by simp; omega)
  generalize BitVec.ofInt 32 a = A at *
  generalize BitVec.ofInt 32 b = B at *
  rw [← ea, ← eb, BitVec.toInt_eq_msb_cond, BitVec.toInt_eq_msb_cond, BitVec.toInt_eq_msb_cond, BitVec.toInt_eq_msb_cond, BitVec.msb_and, BitVec.msb_or, BitVec.toNat_and, BitVec.toNat_or]
  have := nat_and_or A.toNat B.toNat
  cases A.msb <;> cases B.msb <;> simp <;> omega

theorem xor_i32 {a b : Int} (ha : -2147483648 ≤ a ∧ a ≤ 2147483647) : bits .xor .i32 (bits .xor .i32 a b) b = a := by
  show IntKind.i32.wrap ((BitVec.ofInt 32 (IntKind.i32.wrap ((BitVec.ofInt 32 a ^^^ BitVec.ofInt 32 b).toNat : Int)) ^^^ BitVec.ofInt 32 b).toNat : Int) = a
  rw [wrap_i32, wrap_i32, BitVec.ofInt_toInt, BitVec.xor_assoc, BitVec.xor_self, BitVec.xor_zero]
  exact BitVec.toInt_ofInt_eq_self (by decide) (by simp; omega) (by simp; omega)

theorem bits_i32 (op : BinOp) (a b : Int) : -2147483648 ≤ bits op .i32 a b ∧ bits op .i32 a b ≤ 2147483647 := by
  have h : ∀ x : Int, -2147483648 ≤ IntKind.i32.wrap x ∧ IntKind.i32.wrap x ≤ 2147483647 := by
    intro x
    simp only [IntKind.wrap, IntKind.bits, IntKind.signed]
    simp
    omega
  exact h _

theorem intS_range (x : Nat) : -2147483648 ≤ Fl.intS x ∧ Fl.intS x ≤ 2147483647 := by
  unfold Fl.intS
  split
  · unfold wrap32; omega
  · omega

/-- The digits of a numeral, and what they are worth. -/
theorem decDigits_val (u : Nat) : (Lib.decDigits u).all dig = true ∧ valL (Lib.decDigits u) = u ∧ Lib.decDigits u ≠ [] := by
  induction u using Nat.strongRecOn with
  | ind u ih =>
    rw [Lib.decDigits.eq_1]
    by_cases h : u < 10
    · rw [dif_pos h]
      have ht : (UInt8.ofNat (48 + u)).toNat = 48 + u := by rw [UInt8.toNat_ofNat']; omega
      refine ⟨?_, ?_, by simp⟩
      · simp only [List.all_cons, List.all_nil, Bool.and_true, dig, ht]; simp; omega
      · simp only [valL, List.foldl_cons, List.foldl_nil, ht]; omega
    · rw [dif_neg h]
      have ht : (UInt8.ofNat (48 + u % 10)).toNat = 48 + u % 10 := by rw [UInt8.toNat_ofNat']; omega
      obtain ⟨i1, i2, i3⟩ := ih (u / 10) (by omega)
      refine ⟨?_, ?_, by simp⟩
      · rw [List.all_append, i1]; simp only [List.all_cons, List.all_nil, Bool.and_true, dig, ht]; simp; omega
      · rw [valL_snoc, i2, ht]; omega

theorem no_blank_trim {l : List UInt8} (h : ∀ c ∈ l, blanks.contains c = false) : trimV (strOf l) = strOf l := by
  have e := trim_cut (s := strOf l) (a := 0) (b := (strOf l).size) (Nat.zero_le _) (Nat.le_refl _) (fun j u hj _ => absurd hj (by omega))
    (fun j u hj hu => by rw [List.getElem?_eq_none (by rw [size_list]; exact hj)] at hu; cases hu)
    (fun u _ hu => by rw [strOf_list] at hu; exact h u (List.mem_of_getElem? hu))
    (fun u _ hu => by rw [strOf_list] at hu; exact h u (List.mem_of_getElem? hu))
  rw [e]
  exact strOf_inj (by rw [Lib.extract_data, List.drop_zero, List.take_of_length_le (by rw [size_list]; omega), strOf_list])

theorem read_text {x : Nat} (h : Fl.may x = true) : readL (trimV (textS x)).data.toList = (Fl.num? x, 0) := by
  cases Fl.make_of x with
  | nan hN h2 h3 =>
    have hs : textS x = ⟨#[78, 97, 78]⟩ := by unfold textS; rw [if_pos hN]
    rw [hs, h2]
    decide +kernel
  | bad hN h2 h3 => rw [h3] at h; cases h
  | int n hn e h2 h3 h4 =>
    have hs : textS x = strOf (Lib.itoa n) := by unfold textS; rw [h4, h2]; rfl
    rw [hs, h2]
    have dg : ∀ c : UInt8, dig c = true → blanks.contains c = false := all_bytes (by decide +kernel)
    by_cases c : n < 0
    · obtain ⟨u, rfl⟩ : ∃ u : Nat, n = -(u : Int) := ⟨n.natAbs, by omega⟩
      obtain ⟨i1, i2, i3⟩ := decDigits_val u
      rw [Lib.itoa_neg u (by omega), no_blank_trim, strOf_list, readL, if_pos (by decide), readD, if_neg i3, if_neg (by rw [i1]; simp), if_neg (by omega), i2]
      · simp
      · intro c hc
        rcases List.mem_cons.1 hc with rfl | hc
        · decide
        · exact dg c (List.all_eq_true.1 i1 c hc)
    · obtain ⟨u, rfl⟩ := Int.eq_ofNat_of_zero_le (a := n) (by omega)
      obtain ⟨i1, i2, i3⟩ := decDigits_val u
      rw [Lib.itoa_nonneg, no_blank_trim (fun c hc => dg c (List.all_eq_true.1 i1 c hc)), strOf_list]
      obtain ⟨d, r, hd⟩ : ∃ d r, Lib.decDigits u = d :: r := by
        cases hl : Lib.decDigits u with
        | nil => exact absurd hl i3
        | cons d r => exact ⟨d, r, rfl⟩
      have hdg : dig d = true := List.all_eq_true.1 i1 d (by rw [hd]; simp)
      have hd2 : 48 ≤ d.toNat := by simp [dig] at hdg; exact hdg.1
      rw [hd, readL, if_neg (by omega), if_neg (by omega), ← hd, readD, if_neg i3, if_neg (by rw [i1]; simp), if_neg (by simp; omega), i2]
      simp
end Go.Proofs.YtajmdpndbfmdmaaDoor
