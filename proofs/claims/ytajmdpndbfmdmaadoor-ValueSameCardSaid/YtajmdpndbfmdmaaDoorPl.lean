/-
  str.At and the document's At, Place and Part return what the plain theory says. Conditions: strings of at most 70,000 bytes; floats are words of 64 bits.
  str.Find, Less and the document's return what the plain theory says. Conditions: strings of at most 70,000 bytes.
  str.Less, Trim and the document's Less, Bare and Trim return what the plain theory says. Conditions: strings of at most 70,000 bytes.
  The document's Bare and Trim return the string without blanks at its ends. Conditions: strings of at most 70,000 bytes.
  The walk of bailifflaw02.StrPlaces. Conditions: the cell of internal/bytealg.MaxLen holds a whole number.
-/
import Derived.Test.YtajmdpndbfmdmaaDoorSt
import Derived.Test.YtajmdpndbfmdmaaDoorFl
import Derived.Lib.IndexMore
import Derived.Deep.QuietTactic
import Derived.BigQuiet
import Derived.WalkSmall
import Derived.Shelf.Strings.SlTrimAscii
import Derived.Test.YtajmdpndbfmdmaaDoorNuA
namespace Go.Proofs.YtajmdpndbfmdmaaDoor
open Go Go.RowKit

def atS (s : ByteArray) (i : Int) : ByteArray × Bool := if i < 0 ∨ (s.size : Int) ≤ i then (ByteArray.empty, false) else (s.extract i.toNat (i.toNat + 1), true)

theorem at_any (s : ByteArray) (i : Int) (w : World) (hs : s.size ≤ 70000) :
    Calls Tryd.prog 25 #[.string s, .int .i64 i] w fun e w' => e = .returned (.tuple #[.string (atS s i).1, .bool (atS s i).2]) ∧ w = w' := by
  unfold atS
  by_cases c1 : i < 0
  · rw [if_pos (.inl c1)]
    go_enter Tryd.func25, Tryd.ntmps25
    go_wp2
    go_ret2
    exact ⟨rfl, rfl⟩
  · by_cases c2 : (s.size : Int) ≤ i
    · rw [if_pos (.inr c2)]
      go_enter Tryd.func25, Tryd.ntmps25
      go_wp2
      go_ret2
      exact ⟨rfl, rfl⟩
    · rw [if_neg (by omega)]
      obtain ⟨k, rfl⟩ := Int.eq_ofNat_of_zero_le (a := i) (by omega)
      rw [Int.toNat_natCast]
      go_enter Tryd.func25, Tryd.ntmps25
      go_wp2
      go_ret2
      exact ⟨rfl, rfl⟩

theorem refAt_any (s : ByteArray) (i : Int) (w : World) (hs : s.size ≤ 70000) :
    Calls Tryd.prog 26 #[.string s, .int .i64 i] w fun e w' => e = .returned (.tuple #[.string (atS s i).1, .bool (atS s i).2]) ∧ w = w' := by
  unfold atS
  by_cases c1 : i < 0
  · rw [if_pos (.inl c1)]
    go_enter Tryd.func26, Tryd.ntmps26
    go_wp2
    go_ret2
    exact ⟨rfl, rfl⟩
  · by_cases c2 : (s.size : Int) ≤ i
    · rw [if_pos (.inr c2)]
      go_enter Tryd.func26, Tryd.ntmps26
      go_wp2
      go_ret2
      exact ⟨rfl, rfl⟩
    · rw [if_neg (by omega)]
      obtain ⟨k, rfl⟩ := Int.eq_ofNat_of_zero_le (a := i) (by omega)
      rw [Int.toNat_natCast]
      go_enter Tryd.func26, Tryd.ntmps26
      go_wp2
      go_ret2
      exact ⟨rfl, rfl⟩

set_option maxRecDepth 100000 in
theorem refPlace_any (s : ByteArray) (x : Nat) (w : World) (hs : s.size ≤ 70000) (hx : x < 18446744073709551616) :
    Calls Tryd.prog 85 #[.string s, .float .f64 x] w fun e w' => e = .returned (.int .i64 ((Fl.placeS s.size x : Nat) : Int)) ∧ w = w' := by
  have h1 := Fl.ord_neq hx hx
  rw [Fl.feq_self] at h1
  obtain ⟨p, hp⟩ : ∃ p, p = Fl.placeS s.size x := ⟨_, rfl⟩
  rw [← hp]
  have hng : ∀ (x : Nat) (w : World), (Op.unary .neg (.float .f64 x)).run Tryd.prog w = .ok (.float .f64 (Op.negFloat .f64 x)) w := fun _ _ => rfl
  cases hN : Fl.isN x with
  | true =>
    have hp0 : p = 0 := by rw [hp]; unfold Fl.placeS; rw [hN]; rfl
    subst hp0
    rw [hN] at h1
    clear hN hp hx
    go_enter Tryd.func85, Tryd.ntmps85
    go_wp2
    go_ret
    exact ⟨rfl, rfl⟩
  | false =>
    rw [hN] at h1
    have h2 := Fl.ord_lss hx (y := 0) (by omega)
    have h3 : Fl.flt x 0 = decide (Fl.key x < 0) := by unfold Fl.flt; rw [hN, Fl.isN_zero, Fl.key_zero']; rfl
    rw [h3] at h2
    have hW := Fl.floatOfInt_W (s.size : Int)
    have hn9 : s.size < 9007199254740992 := by omega
    by_cases hk : Fl.key x < 0
    · rw [decide_eq_true hk] at h2
      have hp2 : p = s.size - Fl.tn x := by rw [hp]; unfold Fl.placeS; rw [hN]; simp only [Bool.false_eq_true, if_false]; rw [if_pos hk]
      by_cases h0 : s.size = 0
      · have hp0 : p = 0 := by omega
        have hW0 : floatOfInt .f64 0 = 0 := Fl.W_zero
        have hg : Op.negFloat .f64 0 = 9223372036854775808 := by decide
        have h4 := Fl.ord_leq hx (y := 9223372036854775808) (by omega)
        have h5 : Fl.fle x 9223372036854775808 = true := by
          unfold Fl.fle
          rw [hN, show Fl.isN 9223372036854775808 = false from by decide, show Fl.key 9223372036854775808 = 0 from by decide]
          simp; omega
        rw [h5] at h4
        obtain rfl := empty_of h0
        subst hp0
        clear hp hp2 h5 h3 hk hN hx hn9 hW
        go_enter Tryd.func85, Tryd.ntmps85
        go_wp2
        go_ret
        exact ⟨rfl, rfl⟩
      · have hg := Fl.neg_nat h0 hn9
        obtain ⟨_, _, k3⟩ := Fl.key_neg_nat h0 hn9
        have h4 := Fl.ord_leq hx k3
        rw [Fl.fle_neg hx hN hk h0 hn9] at h4
        generalize Fl.W (-(s.size : Int)) = M at hg h4
        generalize Fl.W s.size = L at hW hg
        by_cases ht : s.size ≤ Fl.tn x
        · have hp0 : p = 0 := by omega
          subst hp0
          rw [decide_eq_true ht] at h4
          clear hp hp2 h3 hk hN hx k3 ht
          go_enter Tryd.func85, Tryd.ntmps85
          go_wp2
          go_ret
          exact ⟨rfl, rfl⟩
        · rw [decide_eq_false ht] at h4
          have hc := conv_of (Fl.tn_conv hx hN (by omega))
          rw [if_pos hk] at hc
          generalize Fl.tn x = t at ht hc hp2
          have e : (s.size : Int) + -(t : Int) = p := by omega
          have htl : (t : Int) ≤ 70000 := by omega
          clear hp hp2 h3 hk hN hx k3 ht
          go_enter Tryd.func85, Tryd.ntmps85
          go_wp2
          go_ret
          exact ⟨rfl, rfl⟩
    · rw [decide_eq_false hk] at h2
      have hp2 : p = min s.size (Fl.tn x) := by rw [hp]; unfold Fl.placeS; rw [hN]; simp only [Bool.false_eq_true, if_false]; rw [if_neg hk]
      have h4 := Fl.ord_geq hx (Fl.W_nat_lt hn9).1
      rw [Fl.fle_pos hx hN hk hn9] at h4
      generalize Fl.W s.size = L at hW h4
      by_cases ht : s.size ≤ Fl.tn x
      · have hp0 : p = s.size := by omega
        subst hp0
        rw [decide_eq_true ht] at h4
        clear hp hp2 h3 hk hN hx ht
        go_enter Tryd.func85, Tryd.ntmps85
        go_wp2
        go_ret
        exact ⟨rfl, rfl⟩
      · rw [decide_eq_false ht] at h4
        have hc := conv_of (Fl.tn_conv hx hN (by omega))
        rw [if_neg hk] at hc
        generalize Fl.tn x = t at ht hc hp2
        have hpt : p = t := by omega
        subst hpt
        clear hp hp2 h3 hk hN hx ht
        go_enter Tryd.func85, Tryd.ntmps85
        go_wp2
        go_ret
        exact ⟨rfl, rfl⟩

theorem refPart_any (s : ByteArray) (x y : Nat) (w : World) (hs : s.size ≤ 70000) (hx : x < 18446744073709551616) (hy : y < 18446744073709551616) :
    Calls Tryd.prog 28 #[.string s, .float .f64 x, .float .f64 y] w fun e w' => e = .returned (.string (partS s x y)) ∧ w = w' := by
  have q1 := Lib.hid (fun w' => refPlace_any s x w' hs hx)
  have q2 := Lib.hid (fun w' => refPlace_any s y w' hs hy)
  have ha := Fl.placeS_le s.size x
  have hb := Fl.placeS_le s.size y
  unfold partS
  generalize Fl.placeS s.size x = a at *
  generalize Fl.placeS s.size y = b at *
  by_cases c : b ≤ a
  · rw [if_pos c]
    have c' : (b : Int) ≤ a := by omega
    clear c
    go_enter Tryd.func28, Tryd.ntmps28
    go_wp2_with fail
    refine (q1.out _).mono ?_; rintro e w' ⟨rfl, rfl⟩
    go_wp2_with fail
    refine (q2.out _).mono ?_; rintro e w' ⟨rfl, rfl⟩
    go_wp2_with fail
    go_ret
    exact ⟨rfl, rfl⟩
  · rw [if_neg c]
    have c' : ¬ (b : Int) ≤ a := by omega
    have c2 : (a : Int) ≤ b := by omega
    have c3 : (b : Int) ≤ s.size := by omega
    go_enter Tryd.func28, Tryd.ntmps28
    go_wp2_with fail
    refine (q1.out _).mono ?_; rintro e w' ⟨rfl, rfl⟩
    go_wp2_with fail
    refine (q2.out _).mono ?_; rintro e w' ⟨rfl, rfl⟩
    go_wp2_with fail
    go_ret
    exact ⟨rfl, rfl⟩
end Go.Proofs.YtajmdpndbfmdmaaDoor
namespace Go.Proofs.YtajmdpndbfmdmaaDoor
open Go Go.RowKit

def clampS (s : ByteArray) (i : Int) : Nat := if i < 0 then 0 else if (s.size : Int) < i then s.size else i.toNat
theorem clampS_le (s : ByteArray) (i : Int) : clampS s i ≤ s.size := by unfold clampS; split <;> (try split) <;> omega
def findS (s t : ByteArray) (i : Int) : Int :=
  if Lib.index (s.data.toList.drop (clampS s i)) t.data.toList < 0 then -1 else Lib.index (s.data.toList.drop (clampS s i)) t.data.toList + clampS s i

theorem findS_lo {s t : ByteArray} {i : Int} (h : Lib.index (s.data.toList.drop (clampS s i)) t.data.toList < 0) : findS s t i = -1 := by unfold findS; rw [if_pos h]
theorem findS_hi {s t : ByteArray} {i : Int} (h : ¬ Lib.index (s.data.toList.drop (clampS s i)) t.data.toList < 0) : findS s t i = Lib.index (s.data.toList.drop (clampS s i)) t.data.toList + clampS s i := by unfold findS; rw [if_neg h]

theorem index_at (s t : ByteArray) (f : Nat) (m : Int) (w : World) (hs : s.size ≤ 70000) (hm : w.cell? ⟨1, 0, none⟩ = some (.int .i64 m)) :
    Calls Tryd.prog 86 #[.string (s.extract f s.size), .string t] w fun e w' => e = .returned (.int .i64 (Lib.index (s.data.toList.drop f) t.data.toList)) ∧ w = w' := by
  have hsz : (s.extract f s.size).size ≤ s.size := by simp
  have h := Tryd.strings_Index (s.extract f s.size) t m w (by omega) hm
  rw [drop_ext] at h
  exact h.mono fun _ _ h => ⟨h.1, h.2.symm⟩

theorem find_any (s t : ByteArray) (i m : Int) (w : World) (hs : s.size ≤ 70000) (hi0 : -9223372036854775808 ≤ i) (hi1 : i ≤ 9223372036854775807) (hm : w.cell? ⟨1, 0, none⟩ = some (.int .i64 m)) :
    Calls Tryd.prog 29 #[.string s, .string t, .int .i64 i] w fun e w' => e = .returned (.int .i64 (findS s t i)) ∧ w = w' := by
  have hle := clampS_le s i
  have hI := Lib.hid (index_at s t (clampS s i) m w hs hm)
  have hb : Lib.index (s.data.toList.drop (clampS s i)) t.data.toList ≤ 70000 := by
    have := Lib.index_le (s.data.toList.drop (clampS s i)) t.data.toList
    rw [List.length_drop, size_list] at this
    omega
  have hlo := Lib.hid (@findS_lo s t i)
  have hhi := Lib.hid (@findS_hi s t i)
  have hge := Lib.index_ge (s.data.toList.drop (clampS s i)) t.data.toList
  generalize Lib.index (s.data.toList.drop (clampS s i)) t.data.toList = n at hI hb hlo hhi hge
  generalize findS s t i = R at hlo hhi ⊢
  have hF : max 0 (min i (s.size : Int)) = (clampS s i : Int) := by unfold clampS; split <;> (try split) <;> omega
  generalize clampS s i = f at hI hhi hle hF
  clear hm
  by_cases c1 : n < 0
  · have e := hlo.out c1
    clear hlo hhi
    go_enter Tryd.func29, Tryd.ntmps29
    go_wp2_with fail
    refine hI.out.mono ?_; rintro e w' ⟨rfl, rfl⟩
    go_wp2
    go_ret
    exact ⟨by rw [e]; rfl, rfl⟩
  · have e := Lib.hid (hhi.out c1)
    have c1' : 0 ≤ n := by omega
    clear hlo hhi
    go_enter Tryd.func29, Tryd.ntmps29
    go_wp2_with fail
    refine hI.out.mono ?_; rintro e w' ⟨rfl, rfl⟩
    go_wp2
    go_ret
    refine ⟨?_, rfl⟩
    show Ending.returned (.int .i64 ((f : Int) + n)) = _
    rw [e.out, Int.add_comm]

theorem occ_ext (s t : ByteArray) (k : Nat) : ((s.extract k (k + t.size)).toList == t.toList) = Lib.occAt s.data.toList t.data.toList k := by
  rw [Lib.extract_toList, Lib.toList_data, Nat.add_sub_cancel_left]
  unfold Lib.occAt
  rw [Bool.eq_iff_iff, beq_iff_eq, List.isPrefixOf_iff_prefix, List.prefix_iff_eq_take, size_list]
  exact ⟨fun h => h.symm, fun h => h.symm⟩

theorem occ_drop (l t : List UInt8) (f j : Nat) : Lib.occAt (l.drop f) t j = Lib.occAt l t (f + j) := by
  unfold Lib.occAt; rw [List.drop_drop]

theorem find_hit {s t : ByteArray} {i : Int} {k : Nat} (hf : clampS s i ≤ k) (hk : k ≤ s.size) (ho : Lib.occAt s.data.toList t.data.toList k = true)
    (hn : ∀ j, clampS s i ≤ j → j < k → Lib.occAt s.data.toList t.data.toList j = false) : findS s t i = k := by
  have h := Lib.index_first (s := s.data.toList.drop (clampS s i)) (sub := t.data.toList) (i := k - clampS s i) (by rw [List.length_drop, size_list]; omega)
    (by rw [occ_drop, show clampS s i + (k - clampS s i) = k from by omega]; exact ho) (fun j hj => by rw [occ_drop]; exact hn _ (by omega) (by omega))
  rw [findS_hi (by rw [h]; omega), h]; omega

theorem find_miss {s t : ByteArray} {i : Int} {k : Nat} (hk : s.size < k + t.size)
    (hn : ∀ j, clampS s i ≤ j → j < k → Lib.occAt s.data.toList t.data.toList j = false) : findS s t i = -1 := by
  have h := Lib.index_none (s := s.data.toList.drop (clampS s i)) (sub := t.data.toList) (fun j _ => by
    rw [occ_drop]
    by_cases hj : clampS s i + j < k
    · exact hn _ (by omega) hj
    · cases ho : Lib.occAt s.data.toList t.data.toList (clampS s i + j) with
      | false => rfl
      | true =>
        unfold Lib.occAt at ho
        have hp := (List.isPrefixOf_iff_prefix.1 ho).length_le
        rw [List.length_drop, size_list, size_list] at hp
        by_cases ht : t.size = 0
        · rename_i hjl
          rw [List.length_drop, size_list] at hjl
          have := clampS_le s i
          omega
        · omega)
  exact findS_lo (by rw [h]; decide)

theorem refFind_any (s t : ByteArray) (i : Int) (w : World) (hs : s.size ≤ 70000) (ht : t.size ≤ 70000) (hi0 : -9223372036854775808 ≤ i) (hi1 : i ≤ 9223372036854775807) :
    Calls Tryd.prog 30 #[.string s, .string t, .int .i64 i] w fun e w' => e = .returned (.int .i64 (findS s t i)) ∧ w = w' := by
  have hh := Lib.hid (fun (k : Nat) => @find_hit s t i k)
  have hmiss := Lib.hid (fun (k : Nat) => @find_miss s t i k)
  generalize findS s t i = R at hh hmiss ⊢
  unfold clampS at hh hmiss
  by_cases c1 : i < 0
  · rw [if_pos c1] at hh hmiss
    go_enter Tryd.func30, Tryd.ntmps30
    go_wp2_with fail
    go_loop [7] (fun x => ∃ k : Nat, 0 ≤ k ∧ k ≤ s.size + 1 ∧ x = .int .i64 k ∧ Hid (∀ j, 0 ≤ j → j < k → Lib.occAt s.data.toList t.data.toList j = false)) (fun x => ((s.size : Int) + 1 - intOf x).toNat)
    case atStart => exact ⟨0, Nat.le_refl _, by omega, rfl, fun j h1 h2 => absurd h1 (by omega)⟩
    case round =>
      obtain ⟨k, hk0, hk1, rfl, H⟩ := hrel
      by_cases c : (k : Int) ≤ s.size - t.size
      · have he := occ_ext s t k
        have c' : (k : Int) + t.size ≤ s.size := by omega
        cases ho : Lib.occAt s.data.toList t.data.toList k with
        | true =>
          rw [ho] at he
          have hr := hh.out k hk0 (by omega) ho H.out
          clear ho
          go_wp2
          go_ret
          exact ⟨rfl, rfl⟩
        | false =>
          rw [ho] at he
          have H2 : Hid (∀ j, 0 ≤ j → j < k + 1 → Lib.occAt s.data.toList t.data.toList j = false) := fun j h1 h2 => by
            by_cases h3 : j = k
            · rw [h3]; exact ho
            · exact H.out j h1 (by omega)
          clear ho
          go_wp2
          go_round
          case rel => exact ⟨k + 1, by omega, by omega, by go_num, H2⟩
          case measure => simp [intOf]; omega
      · have hr := hmiss.out k (by omega) H.out
        go_wp2
        go_ret
        exact ⟨rfl, rfl⟩
  · rw [if_neg c1] at hh hmiss
    by_cases c2 : (s.size : Int) < i
    · rw [if_pos c2] at hh hmiss
      go_enter Tryd.func30, Tryd.ntmps30
      go_wp2_with fail
      go_loop [7] (fun x => ∃ k : Nat, s.size ≤ k ∧ k ≤ s.size + 1 ∧ x = .int .i64 k ∧ Hid (∀ j, s.size ≤ j → j < k → Lib.occAt s.data.toList t.data.toList j = false)) (fun x => ((s.size : Int) + 1 - intOf x).toNat)
      case atStart => exact ⟨s.size, Nat.le_refl _, by omega, rfl, fun j h1 h2 => absurd h1 (by omega)⟩
      case round =>
        obtain ⟨k, hk0, hk1, rfl, H⟩ := hrel
        by_cases c : (k : Int) ≤ s.size - t.size
        · have he := occ_ext s t k
          have c' : (k : Int) + t.size ≤ s.size := by omega
          cases ho : Lib.occAt s.data.toList t.data.toList k with
          | true =>
            rw [ho] at he
            have hr := hh.out k hk0 (by omega) ho H.out
            clear ho
            go_wp2
            go_ret
            exact ⟨rfl, rfl⟩
          | false =>
            rw [ho] at he
            have H2 : Hid (∀ j, s.size ≤ j → j < k + 1 → Lib.occAt s.data.toList t.data.toList j = false) := fun j h1 h2 => by
              by_cases h3 : j = k
              · rw [h3]; exact ho
              · exact H.out j h1 (by omega)
            clear ho
            go_wp2
            go_round
            case rel => exact ⟨k + 1, by omega, by omega, by go_num, H2⟩
            case measure => simp [intOf]; omega
        · have hr := hmiss.out k (by omega) H.out
          go_wp2
          go_ret
          exact ⟨rfl, rfl⟩
    · rw [if_neg c2] at hh hmiss
      obtain ⟨f, rfl⟩ := Int.eq_ofNat_of_zero_le (a := i) (by omega)
      rw [Int.toNat_natCast] at hh hmiss
      go_enter Tryd.func30, Tryd.ntmps30
      go_wp2_with fail
      go_loop [7] (fun x => ∃ k : Nat, f ≤ k ∧ k ≤ s.size + 1 ∧ x = .int .i64 k ∧ Hid (∀ j, f ≤ j → j < k → Lib.occAt s.data.toList t.data.toList j = false)) (fun x => ((s.size : Int) + 1 - intOf x).toNat)
      case atStart => exact ⟨f, Nat.le_refl _, by omega, rfl, fun j h1 h2 => absurd h1 (by omega)⟩
      case round =>
        obtain ⟨k, hk0, hk1, rfl, H⟩ := hrel
        by_cases c : (k : Int) ≤ s.size - t.size
        · have he := occ_ext s t k
          have c' : (k : Int) + t.size ≤ s.size := by omega
          cases ho : Lib.occAt s.data.toList t.data.toList k with
          | true =>
            rw [ho] at he
            have hr := hh.out k hk0 (by omega) ho H.out
            clear ho
            go_wp2
            go_ret
            exact ⟨rfl, rfl⟩
          | false =>
            rw [ho] at he
            have H2 : Hid (∀ j, f ≤ j → j < k + 1 → Lib.occAt s.data.toList t.data.toList j = false) := fun j h1 h2 => by
              by_cases h3 : j = k
              · rw [h3]; exact ho
              · exact H.out j h1 (by omega)
            clear ho
            go_wp2
            go_round
            case rel => exact ⟨k + 1, by omega, by omega, by go_num, H2⟩
            case measure => simp [intOf]; omega
        · have hr := hmiss.out k (by omega) H.out
          go_wp2
          go_ret
          exact ⟨rfl, rfl⟩
end Go.Proofs.YtajmdpndbfmdmaaDoor
namespace Go.Proofs.YtajmdpndbfmdmaaDoor
open Go Go.RowKit

def lessV (s t : ByteArray) : Bool := Op.bytesLess s.data.toList t.data.toList

theorem less_str (s t : ByteArray) (w : World) :
    Calls Tryd.prog 31 #[.string s, .string t] w fun e w' => e = .returned (.bool (lessV s t)) ∧ w = w' := by
  go_enter Tryd.func31, Tryd.ntmps31
  go_wp2
  go_ret
  exact ⟨by unfold lessV; rw [← Lib.toList_data, ← Lib.toList_data]; rfl, rfl⟩

theorem less_nil (l : List UInt8) : Op.bytesLess l [] = false := by cases l <;> rfl

theorem less_end {a b : ByteArray} {k : Nat} {R : Bool} (ha : k ≤ a.size) (hb : k ≤ b.size) (h : ¬ (k < a.size ∧ k < b.size)) (hR : Op.bytesLess (a.data.toList.drop k) (b.data.toList.drop k) = R) :
    R = decide ((a.size : Int) < b.size) := by
  rw [← hR]
  by_cases h1 : k < b.size
  · have : k = a.size := by omega
    rw [List.drop_of_length_le (by rw [size_list]; omega), drop_cons b k h1, decide_eq_true (by omega)]
    rfl
  · rw [List.drop_of_length_le (l := b.data.toList) (by rw [size_list]; omega), less_nil, decide_eq_false (by omega)]

theorem less_step {a b : ByteArray} {k : Nat} {R : Bool} (ha : k < a.size) (hb : k < b.size) (hR : Op.bytesLess (a.data.toList.drop k) (b.data.toList.drop k) = R) (x y : UInt8) (hx : a[k]'ha = x) (hy : b[k]'hb = y) :
    (x.toNat = y.toNat → Op.bytesLess (a.data.toList.drop (k + 1)) (b.data.toList.drop (k + 1)) = R) ∧ (x.toNat ≠ y.toNat → R = decide ((x.toNat : Int) < y.toNat)) := by
  rw [drop_cons a k ha, drop_cons b k hb, hx, hy] at hR
  simp only [Op.bytesLess] at hR
  constructor
  · intro h
    have hxy : x = y := UInt8.toNat_inj.1 h
    subst hxy
    have hlt : decide (x < x) = false := by simp
    rw [hlt] at hR
    simpa using hR
  · intro h
    have hxy : (x == y) = false := by rw [beq_eq_false_iff_ne]; intro e; exact h (by rw [e])
    rw [hxy] at hR
    rw [← hR]
    simp only [Bool.false_and, Bool.or_false]
    rw [decide_eq_decide, UInt8.lt_iff_toNat_lt]
    omega

set_option maxRecDepth 100000 in
theorem refLess_str (a b : ByteArray) (w : World) (ha : a.size ≤ 70000) (hb : b.size ≤ 70000) :
    Calls Tryd.prog 32 #[.string a, .string b] w fun e w' => e = .returned (.bool (lessV a b)) ∧ Below w.heap.size w w' := by
  obtain ⟨R, hR⟩ : ∃ R, Op.bytesLess (a.data.toList.drop 0) (b.data.toList.drop 0) = R := ⟨_, rfl⟩
  rw [show lessV a b = R from hR]
  have hR' := Lib.hid hR
  clear hR
  go_enter Tryd.func32, Tryd.ntmps32
  go_wp2_with fail
  go_loopw [5] (fun i wr => ∃ k : Nat, k ≤ a.size ∧ k ≤ b.size ∧ i = .int .i64 k ∧ Hid (Op.bytesLess (a.data.toList.drop k) (b.data.toList.drop k) = R) ∧ Hid (Below w.heap.size w wr)) (fun i _ => ((a.size : Int) - intOf i).toNat)
  case atStart => exact ⟨0, by omega, by omega, rfl, hR', Lib.hid (Below.refl _ _)⟩
  case round =>
    obtain ⟨k, hka, hkb, rfl, H, HB⟩ := hrel
    by_cases c : k < a.size ∧ k < b.size
    · obtain ⟨ca, cb⟩ := c
      have ca' : (k : Int) < a.size := by omega
      have cb' : (k : Int) < b.size := by omega
      obtain ⟨x, hx⟩ : ∃ x, a[k]'ca = x := ⟨_, rfl⟩
      obtain ⟨y, hy⟩ : ∃ y, b[k]'cb = y := ⟨_, rfl⟩
      obtain ⟨s1, s2⟩ := less_step ca cb H.out x y hx hy
      by_cases e : x.toNat = y.toNat
      · have hn := Lib.hid (s1 e)
        have e' : ((x.toNat : Int) != (y.toNat : Int)) = false := by simp; omega
        have e2 : ((x.toNat : Int) == (y.toNat : Int)) = true := by simp; omega
        clear s1 s2 e
        go_wp2_with fail
        go_quiet (fail)
        have HB2 := Lib.hid (below_drewN HB.out nq)
        go_wp2_with fail
        exact ⟨⟨k + 1, by omega, by omega, by simp, hn, HB2⟩, by simp [intOf]; omega⟩
      · have hn := Lib.hid (s2 e)
        have e' : ((x.toNat : Int) != (y.toNat : Int)) = true := by simp; omega
        have e2 : ((x.toNat : Int) == (y.toNat : Int)) = false := by simp; omega
        clear s1 s2 e
        go_wp2_with fail
        go_quiet (fail)
        have HB2 := Lib.hid (below_drewN HB.out nq)
        go_wp2_with fail
        go_quiet (fail)
        have HB3 := Lib.hid (below_drewN HB2.out nq)
        go_wp2_with fail
        go_ret
        exact ⟨by rw [hn.out]; simp, HB3.out⟩
    · have hn := Lib.hid (less_end hka hkb c H.out)
      by_cases ca : k < a.size
      · have ca' : (k : Int) < a.size := by omega
        have cb' : ¬ (k : Int) < b.size := by omega
        clear c
        go_wp2_with fail
        go_ret
        exact ⟨by rw [hn.out]; simp, HB.out⟩
      · have ca' : ¬ (k : Int) < a.size := by omega
        clear c
        go_wp2_with fail
        go_ret
        exact ⟨by rw [hn.out]; simp, HB.out⟩
def blanks : List UInt8 := [9, 10, 13, 32]
def trimV (s : ByteArray) : ByteArray := strOf (Lib.trimS s.data.toList blanks)

theorem trim_str (s : ByteArray) (w : World) (hs : s.size ≤ 70000) :
    Calls Tryd.prog 33 #[.string s] w fun e w' => e = .returned (.string (trimV s)) ∧ Below w.heap.size w w' := by
  have h := Any.strings_Trim_laid Tryd.lays160 (by kernel_rfl) s ⟨#[9, 10, 13, 32]⟩ w (by omega) (by decide) (Go.Proofs.ascii_of_all (by decide))
  have q : Hid (Calls Tryd.prog 87 #[.string s, .string ⟨#[9, 10, 13, 32]⟩] w fun e w' => e = .returned (.string (trimV s)) ∧ Below w.heap.size w w') := h
  clear h
  go_enter Tryd.func33, Tryd.ntmps33
  go_wp2_with fail
  refine q.out.mono ?_; rintro e w' ⟨rfl, hb⟩
  have hb' := Lib.hid hb
  clear hb
  go_wp2
  go_ret
  exact ⟨rfl, hb'.out⟩

set_option maxRecDepth 100000 in
theorem blank_any (c : UInt8) (w : World) :
    Calls Tryd.prog 129 #[.int .u8 c.toNat] w fun e w' => e = .returned (.bool (blanks.contains c)) ∧ w = w' := by
  have e : blanks.contains c = (decide (c.toNat = 9) || decide (c.toNat = 10) || decide (c.toNat = 13) || decide (c.toNat = 32)) := by
    have h : ∀ n : Nat, n < 256 → blanks.contains (UInt8.ofNat n) = (decide (n = 9) || decide (n = 10) || decide (n = 13) || decide (n = 32)) := by decide
    have := h c.toNat c.toNat_lt
    rwa [UInt8.ofNat_toNat] at this
  have he := Lib.hid e
  clear e
  by_cases c1 : c.toNat = 9
  · have d1 : ((c.toNat : Int) == 9) = true := by simp; omega
    go_enter Tryd.func129, Tryd.ntmps129
    go_wp2
    go_ret
    exact ⟨by rw [he.out]; simp [c1], rfl⟩
  · have d1 : ((c.toNat : Int) == 9) = false := by simp; omega
    by_cases c2 : c.toNat = 10
    · have d2 : ((c.toNat : Int) == 10) = true := by simp; omega
      go_enter Tryd.func129, Tryd.ntmps129
      go_wp2
      go_ret
      exact ⟨by rw [he.out]; simp [c2], rfl⟩
    · have d2 : ((c.toNat : Int) == 10) = false := by simp; omega
      by_cases c3 : c.toNat = 13
      · have d3 : ((c.toNat : Int) == 13) = true := by simp; omega
        go_enter Tryd.func129, Tryd.ntmps129
        go_wp2
        go_ret
        exact ⟨by rw [he.out]; simp [c3], rfl⟩
      · have d3 : ((c.toNat : Int) == 13) = false := by simp; omega
        by_cases c4 : c.toNat = 32
        · have d4 : ((c.toNat : Int) == 32) = true := by simp; omega
          go_enter Tryd.func129, Tryd.ntmps129
          go_wp2
          go_ret
          exact ⟨by rw [he.out]; simp [c4], rfl⟩
        · have d4 : ((c.toNat : Int) == 32) = false := by simp; omega
          go_enter Tryd.func129, Tryd.ntmps129
          go_wp2
          go_ret
          exact ⟨by rw [he.out]; simp [c1, c2, c3, c4], rfl⟩
end Go.Proofs.YtajmdpndbfmdmaaDoor
namespace Go.Proofs.YtajmdpndbfmdmaaDoor
open Go Go.RowKit

theorem get_list (s : ByteArray) (j : Nat) (h : j < s.size) : s.data.toList[j]? = some (s[j]'h) := by
  have h' : j < s.data.toList.length := by rw [size_list]; exact h
  rw [List.getElem?_eq_getElem h']; rfl

theorem trim_cut {s : ByteArray} {a b : Nat} (h1 : a ≤ b) (h2 : b ≤ s.size) (ha : ∀ j u, j < a → s.data.toList[j]? = some u → blanks.contains u = true) (hb : ∀ j u, b ≤ j → s.data.toList[j]? = some u → blanks.contains u = true)
    (ha2 : ∀ u, a < s.size → s.data.toList[a]? = some u → blanks.contains u = false) (hb2 : ∀ u, a < b → s.data.toList[b - 1]? = some u → blanks.contains u = false) : trimV s = s.extract a b := by
  unfold trimV
  symm
  apply strOf_inj
  rw [Lib.extract_data]
  unfold Lib.trimS
  by_cases hab : a = b
  · subst hab
    rw [Nat.sub_self, List.take_zero, Lib.trimRightS_take _ _ 0 (Nat.zero_le _) (fun j u _ hu => ?_) (fun _ h _ => absurd h (by omega)), List.take_zero]
    · rfl
    · by_cases hj : j < a
      · exact ha j u hj hu
      · exact hb j u (by omega) hu
  · rw [Lib.trimRightS_take _ _ b (by rw [size_list]; exact h2) hb (fun u _ hu => hb2 u (by omega) hu)]
    rw [Lib.trimLeftS_drop _ _ a (by rw [List.length_take, size_list]; omega)]
    · rw [List.take_drop, show a + (b - a) = b from by omega]
    · intro j u hj hu
      rw [List.getElem?_take_of_lt (by omega)] at hu
      exact ha j u hj hu
    · intro u hu
      rw [List.getElem?_take_of_lt (by omega)] at hu
      exact ha2 u (by omega) hu

set_option maxHeartbeats 1000000 in
set_option maxRecDepth 100000 in
theorem bare_any (s : ByteArray) (w : World) (hs : s.size ≤ 70000) :
    Calls Tryd.prog 88 #[.string s] w fun e w' => e = .returned (.string (trimV s)) ∧ w = w' := by
  have q := Lib.hid (fun c w' => blank_any c w')
  have hT := Lib.hid (fun (a b : Nat) => @trim_cut s a b)
  generalize trimV s = V at hT ⊢
  go_enter Tryd.func88, Tryd.ntmps88
  go_wp2_with fail
  go_loop [3] (fun x => ∃ k : Nat, k ≤ s.size ∧ x = .int .i64 k ∧ Hid (∀ j u, j < k → s.data.toList[j]? = some u → blanks.contains u = true)) (fun x => ((s.size : Int) - intOf x).toNat)
  case atStart => exact ⟨0, by omega, rfl, fun j u h => absurd h (by omega)⟩
  case round =>
    obtain ⟨k, hk, rfl, H⟩ := hrel
    have step : Hid ((∀ u, k < s.size → s.data.toList[k]? = some u → blanks.contains u = false) → True) := fun _ => trivial
    clear step
    by_cases c : (k : Int) < s.size
    · obtain ⟨u, hu⟩ : ∃ u, s[k]'(by omega) = u := ⟨_, rfl⟩
      have hg := Lib.hid (get_list s k (by omega))
      rw [hu] at hg
      cases hb : blanks.contains u with
      | true =>
        have H2 : Hid (∀ j v, j < k + 1 → s.data.toList[j]? = some v → blanks.contains v = true) := fun j v hj hv => by
          by_cases e : j = k
          · subst e
            rw [hg.out] at hv
            injection hv with hv
            rw [← hv]; exact hb
          · exact H.out j v (by omega) hv
        have q1 := Lib.hid (q.out u)
        rw [hb] at q1
        clear hb
        go_wp2_with fail
        refine (q1.out _).mono ?_; rintro e w' ⟨rfl, rfl⟩
        go_wp2_with fail
        go_round
        case rel => exact ⟨k + 1, by omega, by go_num, H2⟩
        case measure => simp [intOf]; omega
      | false =>
        have q1 := Lib.hid (q.out u)
        rw [hb] at q1
        have hA : Hid (∀ v, k < s.size → s.data.toList[k]? = some v → blanks.contains v = false) := fun v _ hv => by
          rw [hg.out] at hv
          injection hv with hv
          rw [← hv]; exact hb
        clear hb
        go_wp2_with fail
        refine (q1.out _).mono ?_; rintro e w' ⟨rfl, rfl⟩
        go_wp2_with fail
        go_loop [4] (fun x => ∃ m : Nat, k ≤ m ∧ m ≤ s.size ∧ x = .int .i64 m ∧ Hid (∀ j u, m ≤ j → s.data.toList[j]? = some u → blanks.contains u = true)) (fun x => (intOf x - (k : Int)).toNat)
        case atStart => exact ⟨s.size, by omega, by omega, rfl, fun j u h hu => by rw [List.getElem?_eq_none (by rw [size_list]; exact h)] at hu; cases hu⟩
        case round =>
          obtain ⟨m, hm0, hm1, rfl, HM⟩ := hrel
          by_cases c2 : (k : Int) < m
          · obtain ⟨v, hv⟩ : ∃ v, s[m - 1]'(by omega) = v := ⟨_, rfl⟩
            have hg2 := Lib.hid (get_list s (m - 1) (by omega))
            rw [hv] at hg2
            have i1 : ((m : Int) - 1).toNat = m - 1 := by omega
            have i2 : (0 : Int) ≤ (m : Int) - 1 := by omega
            have i3 : (m : Int) - 1 < s.size := by omega
            have q2 := Lib.hid (q.out v)
            cases hb : blanks.contains v with
            | true =>
              rw [hb] at q2
              have H2 : Hid (∀ j u, m - 1 ≤ j → s.data.toList[j]? = some u → blanks.contains u = true) := fun j u hj hju => by
                by_cases e : j = m - 1
                · subst e
                  rw [hg2.out] at hju
                  injection hju with hju
                  rw [← hju]; exact hb
                · exact HM.out j u (by omega) hju
              clear hb
              go_wp2_with fail
              refine (q2.out _).mono ?_; rintro e w' ⟨rfl, rfl⟩
              go_wp2_with fail
              go_round
              case rel => exact ⟨m - 1, by omega, by omega, by simp; omega, H2⟩
              case measure => simp [intOf]; omega
            | false =>
              rw [hb] at q2
              have hB2 : ∀ u, k < m → s.data.toList[m - 1]? = some u → blanks.contains u = false := fun u _ hju => by
                rw [hg2.out] at hju
                injection hju with hju
                rw [← hju]; exact hb
              have hV := Lib.hid (hT.out k m hm0 hm1 H.out HM.out hA.out hB2)
              clear hb hB2
              go_wp2_with fail
              refine (q2.out _).mono ?_; rintro e w' ⟨rfl, rfl⟩
              go_wp2_with fail
              go_ret
              exact ⟨by rw [hV.out]; rfl, rfl⟩
          · have hV := Lib.hid (hT.out k m hm0 hm1 H.out HM.out hA.out (fun _ h => absurd h (by omega)))
            go_wp2_with fail
            go_ret
            exact ⟨by rw [hV.out]; rfl, rfl⟩
    · have hA : Hid (∀ v, k < s.size → s.data.toList[k]? = some v → blanks.contains v = false) := fun v h _ => absurd h (by omega)
      go_wp2_with fail
      go_loop [4] (fun x => ∃ m : Nat, k ≤ m ∧ m ≤ s.size ∧ x = .int .i64 m ∧ Hid (∀ j u, m ≤ j → s.data.toList[j]? = some u → blanks.contains u = true)) (fun x => (intOf x - (k : Int)).toNat)
      case atStart => exact ⟨s.size, by omega, by omega, rfl, fun j u h hu => by rw [List.getElem?_eq_none (by rw [size_list]; exact h)] at hu; cases hu⟩
      case round =>
        obtain ⟨m, hm0, hm1, rfl, HM⟩ := hrel
        by_cases c2 : (k : Int) < m
        · obtain ⟨v, hv⟩ : ∃ v, s[m - 1]'(by omega) = v := ⟨_, rfl⟩
          have hg2 := Lib.hid (get_list s (m - 1) (by omega))
          rw [hv] at hg2
          have i1 : ((m : Int) - 1).toNat = m - 1 := by omega
          have i2 : (0 : Int) ≤ (m : Int) - 1 := by omega
          have i3 : (m : Int) - 1 < s.size := by omega
          have q2 := Lib.hid (q.out v)
          cases hb : blanks.contains v with
          | true =>
            rw [hb] at q2
            have H2 : Hid (∀ j u, m - 1 ≤ j → s.data.toList[j]? = some u → blanks.contains u = true) := fun j u hj hju => by
              by_cases e : j = m - 1
              · subst e
                rw [hg2.out] at hju
                injection hju with hju
                rw [← hju]; exact hb
              · exact HM.out j u (by omega) hju
            clear hb
            go_wp2_with fail
            refine (q2.out _).mono ?_; rintro e w' ⟨rfl, rfl⟩
            go_wp2_with fail
            go_round
            case rel => exact ⟨m - 1, by omega, by omega, by simp; omega, H2⟩
            case measure => simp [intOf]; omega
          | false =>
            rw [hb] at q2
            have hB2 : ∀ u, k < m → s.data.toList[m - 1]? = some u → blanks.contains u = false := fun u _ hju => by
              rw [hg2.out] at hju
              injection hju with hju
              rw [← hju]; exact hb
            have hV := Lib.hid (hT.out k m hm0 hm1 H.out HM.out hA.out hB2)
            clear hb hB2
            go_wp2_with fail
            refine (q2.out _).mono ?_; rintro e w' ⟨rfl, rfl⟩
            go_wp2_with fail
            go_ret
            exact ⟨by rw [hV.out]; rfl, rfl⟩
        · have hV := Lib.hid (hT.out k m hm0 hm1 H.out HM.out hA.out (fun _ h => absurd h (by omega)))
          go_wp2_with fail
          go_ret
          exact ⟨by rw [hV.out]; rfl, rfl⟩
theorem refTrim_str (s : ByteArray) (w : World) (hs : s.size ≤ 70000) :
    Calls Tryd.prog 34 #[.string s] w fun e w' => e = .returned (.string (trimV s)) ∧ w = w' := by
  have q := Lib.hid (bare_any s w hs)
  go_enter Tryd.func34, Tryd.ntmps34
  go_wp2_with fail
  refine q.out.mono ?_; rintro e w' ⟨rfl, rfl⟩
  go_wp2
  go_ret
  exact ⟨rfl, rfl⟩
end Go.Proofs.YtajmdpndbfmdmaaDoor
namespace Go.Proofs.YtajmdpndbfmdmaaDoor
open Go Go.RowKit

theorem dw_le (p : UInt8 → Bool) (l : List UInt8) : (l.dropWhile p).length ≤ l.length := (List.dropWhile_suffix p).length_le
theorem trimV_le (s : ByteArray) : (trimV s).size ≤ s.size := by
  rw [← size_list, ← size_list s]
  unfold trimV Lib.trimS Lib.trimLeftS Lib.trimRightS
  rw [strOf_list]
  refine Nat.le_trans (dw_le _ _) ?_
  rw [List.length_reverse]
  refine Nat.le_trans (dw_le _ _) ?_
  rw [List.length_reverse]
  exact Nat.le_refl _

theorem word_of_wf {a : Nat} (h : (Lit.float .f64 a).wf = true) : a < 18446744073709551616 := by
  simp only [Lit.wf, decide_eq_true_eq] at h; exact h

set_option maxHeartbeats 2000000 in
set_option maxRecDepth 100000 in
theorem strPlaces_walk (s t : ByteArray) (i : Int) (x y : Nat) (_w0 : s.size ≤ maxLen) (_w1 : t.size ≤ maxLen) (w2 : (Lit.int .i64 i).wf = true) (w3 : (Lit.float .f64 x).wf = true) (w4 : (Lit.float .f64 y).wf = true)
    (w : World) (m : Int) (hm : w.cell? ⟨1, 0, none⟩ = some (.int .i64 m)) :
    Calls Tryd.prog 4 #[.string s, .string t, .int .i64 i, .float .f64 x, .float .f64 y] w fun e w' => e = .returned (.bool true) ∧ Below w.heap.size w w' := by
  have hi : -9223372036854775808 ≤ i ∧ i ≤ 9223372036854775807 := by simpa [Lit.wf, IntKind.min, IntKind.max, IntKind.signed, IntKind.bits] using w2
  obtain ⟨hi0, hi1⟩ := hi
  have hx := word_of_wf w3
  have hy := word_of_wf w4
  clear w2 w3 w4
  by_cases c1 : 9000 < s.size
  · have d1 : 9000 < (s.size : Int) := by omega
    clear hm
    go_enter Tryd.func4, Tryd.ntmps4
    go_wp2
    go_ret
    exact ⟨rfl, Below.refl _ _⟩
  · have d1 : ¬ 9000 < (s.size : Int) := by omega
    by_cases c2 : 9000 < t.size
    · have d2 : 9000 < (t.size : Int) := by omega
      clear hm
      go_enter Tryd.func4, Tryd.ntmps4
      go_wp2
      go_ret
      exact ⟨rfl, Below.refl _ _⟩
    · have d2 : ¬ 9000 < (t.size : Int) := by omega
      have q1 := Lib.hid (fun w' => at_any s i w' (by omega))
      have q2 := Lib.hid (fun w' => refAt_any s i w' (by omega))
      have q3 := Lib.hid (fun w' => part_any s x y w' (by omega) hx hy)
      have q4 := Lib.hid (fun w' => refPart_any s x y w' (by omega) hx hy)
      have q5 := Lib.hid (find_any s t i m w (by omega) hi0 hi1 hm)
      have q6 := Lib.hid (fun w' => refFind_any s t i w' (by omega) (by omega) hi0 hi1)
      have q7 := Lib.hid (fun w' => less_str s t w')
      have q8 := Lib.hid (fun w' => refLess_str s t w' (by omega) (by omega))
      have q9 := Lib.hid (fun w' => trim_str s w' (by omega))
      have qa := Lib.hid (fun w' => refTrim_str s w' (by omega))
      generalize atS s i = v1 at q1 q2
      obtain ⟨v1, v2⟩ := v1
      generalize partS s x y = v3 at q3 q4
      generalize findS s t i = v5 at q5 q6
      generalize lessV s t = v7 at q7 q8
      generalize trimV s = v9 at q9 qa
      clear hm c1 c2
      go_enter Tryd.func4, Tryd.ntmps4
      go_wp2_with fail
      refine (q1.out _).mono ?_; rintro e w' ⟨rfl, rfl⟩
      go_wp2_with fail
      refine (q2.out _).mono ?_; rintro e w' ⟨rfl, rfl⟩
      go_wp2_with fail
      refine (q3.out _).mono ?_; rintro e w' ⟨rfl, rfl⟩
      go_wp2_with fail
      refine (q4.out _).mono ?_; rintro e w' ⟨rfl, rfl⟩
      go_wp2_with fail
      refine q5.out.mono ?_; rintro e w' ⟨rfl, rfl⟩
      go_wp2_with fail
      refine (q6.out _).mono ?_; rintro e w' ⟨rfl, rfl⟩
      go_wp2_with fail
      refine (q7.out _).mono ?_; rintro e w' ⟨rfl, rfl⟩
      go_wp2_with fail
      refine (q8.out _).mono ?_; rintro e w1 ⟨rfl, b1⟩
      have B1 := Lib.hid b1
      clear b1
      go_wp2_with fail
      refine (q9.out _).mono ?_; rintro e w2 ⟨rfl, b2⟩
      have B2 := Lib.hid (B1.out.trans (b2.mono B1.out.size))
      clear b2
      go_wp2_with fail
      refine (qa.out _).mono ?_; rintro e w' ⟨rfl, rfl⟩
      go_wp2
      go_ret
      exact ⟨by simp, B2.out⟩
end Go.Proofs.YtajmdpndbfmdmaaDoor
