/-
  str.Find, Less and the document's return what the plain theory says. Conditions: strings of at most 70,000 bytes.
-/
import Derived.Test.YtajmdpndbfmdmaaDoorPlaA
import Derived.Lib.IndexMore
namespace Go.Proofs.YtajmdpndbfmdmaaDoor
open Go Go.RowKit

def clampS (s : ByteArray) (i : Int) : Nat := if i < 0 then 0 else if (s.size : Int) < i then s.size else i.toNat
theorem clampS_le (s : ByteArray) (i : Int) : clampS s i ≤ s.size := by unfold clampS; split <;> (try split) <;> omega
def findS (s t : ByteArray) (i : Int) : Int :=
  if Lib.index (s.data.toList.drop (clampS s i)) t.data.toList < 0 then -1 else Lib.index (s.data.toList.drop (clampS s i)) t.data.toList + clampS s i

theorem findS_lo {s t : ByteArray} {i : Int} (h : Lib.index (s.data.toList.drop (clampS s i)) t.data.toList < 0) : findS s t i = -1 := by unfold findS; rw [if_pos h]
theorem findS_hi {s t : ByteArray} {i : Int} (h : ¬ Lib.index (s.data.toList.drop (clampS s i)) t.data.toList < 0) : findS s t i = Lib.index (s.data.toList.drop (clampS s i)) t.data.toList + clampS s i := by unfold findS; rw [if_neg h]

theorem index_at (s t : ByteArray) (f : Nat) (m : Int) (w : World) (hs : s.size ≤ 70000) (hm : w.cell? ⟨1, 0, none⟩ = some (.int .i64 m)) :
    Calls Tryd.prog 86 #[.string (s.extract f s.size), .string t] w fun e w' => e = .returned (.int .i64 (Lib.index (s.data.toList.drop f) t.data.toList)) ∧ w = w' := by
  have hsz : (s.extract f s.size).size ≤ s.size := by simp
  have h := Tryd.strings_Index (s.extract f s.size) t m w (by omega) hm
  rw [drop_ext] at h
  exact h.mono fun _ _ h => ⟨h.1, h.2.symm⟩

theorem find_any (s t : ByteArray) (i m : Int) (w : World) (hs : s.size ≤ 70000) (hi0 : -9223372036854775808 ≤ i) (hi1 : i ≤ 9223372036854775807) (hm : w.cell? ⟨1, 0, none⟩ = some (.int .i64 m)) :
    Calls Tryd.prog 29 #[.string s, .string t, .int .i64 i] w fun e w' => e = .returned (.int .i64 (findS s t i)) ∧ w = w' := by
  have hle := clampS_le s i
  have hI := Lib.hid (index_at s t (clampS s i) m w hs hm)
  have hb : Lib.index (s.data.toList.drop (clampS s i)) t.data.toList ≤ 70000 := by
    have := Lib.index_le (s.data.toList.drop (clampS s i)) t.data.toList
    rw [List.length_drop, size_list] at this
    omega
  have hlo := Lib.hid (@findS_lo s t i)
  have hhi := Lib.hid (@findS_hi s t i)
  have hge := Lib.index_ge (s.data.toList.drop (clampS s i)) t.data.toList
  generalize Lib.index (s.data.toList.drop (clampS s i)) t.data.toList = n at hI hb hlo hhi hge
  generalize findS s t i = R at hlo hhi ⊢
  have hF : max 0 (min i (s.size : Int)) = (clampS s i : Int) := by unfold clampS; split <;> (try split) <;> omega
  generalize clampS s i = f at hI hhi hle hF
  clear hm
  by_cases c1 : n < 0
  · have e := hlo.out c1
    clear hlo hhi
    go_enter Tryd.func29, Tryd.ntmps29
    go_wp2_with fail
    refine hI.out.mono ?_; rintro e w' ⟨rfl, rfl⟩
    go_wp2
    go_ret
    exact ⟨by rw [e]; rfl, rfl⟩
  · have e := Lib.hid (hhi.out c1)
    have c1' : 0 ≤ n := by omega
    clear hlo hhi
    go_enter Tryd.func29, Tryd.ntmps29
    go_wp2_with fail
    refine hI.out.mono ?_; rintro e w' ⟨rfl, rfl⟩
    go_wp2
    go_ret
    refine ⟨?_, rfl⟩
    show Ending.returned (.int .i64 ((f : Int) + n)) = _
    rw [e.out, Int.add_comm]

theorem occ_ext (s t : ByteArray) (k : Nat) : ((s.extract k (k + t.size)).toList == t.toList) = Lib.occAt s.data.toList t.data.toList k := by
  rw [Lib.extract_toList, Lib.toList_data, Nat.add_sub_cancel_left]
  unfold Lib.occAt
  rw [Bool.eq_iff_iff, beq_iff_eq, List.isPrefixOf_iff_prefix, List.prefix_iff_eq_take, size_list]
  exact ⟨fun h => h.symm, fun h => h.symm⟩

theorem occ_drop (l t : List UInt8) (f j : Nat) : Lib.occAt (l.drop f) t j = Lib.occAt l t (f + j) := by
  unfold Lib.occAt; rw [List.drop_drop]

theorem find_hit {s t : ByteArray} {i : Int} {k : Nat} (hf : clampS s i ≤ k) (hk : k ≤ s.size) (ho : Lib.occAt s.data.toList t.data.toList k = true)
    (hn : ∀ j, clampS s i ≤ j → j < k → Lib.occAt s.data.toList t.data.toList j = false) : findS s t i = k := by
  have h := Lib.index_first (s := s.data.toList.drop (clampS s i)) (sub := t.data.toList) (i := k - clampS s i) (by rw [List.length_drop, size_list]; omega)
    (by rw [occ_drop, show clampS s i + (k - clampS s i) = k from by omega]; exact ho) (fun j hj => by rw [occ_drop]; exact hn _ (by omega) (by omega))
  rw [findS_hi (by rw [h]; omega), h]; omega

theorem find_miss {s t : ByteArray} {i : Int} {k : Nat} (hk : s.size < k + t.size)
    (hn : ∀ j, clampS s i ≤ j → j < k → Lib.occAt s.data.toList t.data.toList j = false) : findS s t i = -1 := by
  have h := Lib.index_none (s := s.data.toList.drop (clampS s i)) (sub := t.data.toList) (fun j _ => by
    rw [occ_drop]
    by_cases hj : clampS s i + j < k
    · exact hn _ (by omega) hj
    · cases ho : Lib.occAt s.data.toList t.data.toList (clampS s i + j) with
      | false => rfl
      | true =>
        unfold Lib.occAt at ho
        have hp := (List.isPrefixOf_iff_prefix.1 ho).length_le
        rw [List.length_drop, size_list, size_list] at hp
        by_cases ht : t.size = 0
        · rename_i hjl
          rw [List.length_drop, size_list] at hjl
          have := clampS_le s i
          omega
        · omega)
  exact findS_lo (by rw [h]; decide)

theorem refFind_any (s t : ByteArray) (i : Int) (w : World) (hs : s.size ≤ 70000) (ht : t.size ≤ 70000) (hi0 : -9223372036854775808 ≤ i) (hi1 : i ≤ 9223372036854775807) :
    Calls Tryd.prog 30 #[.string s, .string t, .int .i64 i] w fun e w' => e = .returned (.int .i64 (findS s t i)) ∧ w = w' := by
  have hh := Lib.hid (fun (k : Nat) => @find_hit s t i k)
  have hmiss := Lib.hid (fun (k : Nat) => @find_miss s t i k)
  generalize findS s t i = R at hh hmiss ⊢
  unfold clampS at hh hmiss
  by_cases c1 : i < 0
  · rw [if_pos c1] at hh hmiss
    go_enter Tryd.func30, Tryd.ntmps30
    go_wp2_with fail
    go_loop [7] (fun x => ∃ k : Nat, 0 ≤ k ∧ k ≤ s.size + 1 ∧ x = .int .i64 k ∧ Hid (∀ j, 0 ≤ j → j < k → Lib.occAt s.data.toList t.data.toList j = false)) (fun x => ((s.size : Int) + 1 - intOf x).toNat)
    case atStart => exact ⟨0, Nat.le_refl _, by omega, rfl, fun j h1 h2 => absurd h1 (by omega)⟩
    case round =>
      obtain ⟨k, hk0, hk1, rfl, H⟩ := hrel
      by_cases c : (k : Int) ≤ s.size - t.size
      · have he := occ_ext s t k
        have c' : (k : Int) + t.size ≤ s.size := by omega
        cases ho : Lib.occAt s.data.toList t.data.toList k with
        | true =>
          rw [ho] at he
          have hr := hh.out k hk0 (by omega) ho H.out
          clear ho
          go_wp2
          go_ret
          exact ⟨rfl, rfl⟩
        | false =>
          rw [ho] at he
          have H2 : Hid (∀ j, 0 ≤ j → j < k + 1 → Lib.occAt s.data.toList t.data.toList j = false) := fun j h1 h2 => by
            by_cases h3 : j = k
            · rw [h3]; exact ho
            · exact H.out j h1 (by omega)
          clear ho
          go_wp2
          go_round
          case rel => exact ⟨k + 1, by omega, by omega, by go_num, H2⟩
          case measure => simp [intOf]; omega
      · have hr := hmiss.out k (by omega) H.out
        go_wp2
        go_ret
        exact ⟨rfl, rfl⟩
  · rw [if_neg c1] at hh hmiss
    by_cases c2 : (s.size : Int) < i
    · rw [if_pos c2] at hh hmiss
      go_enter Tryd.func30, Tryd.ntmps30
      go_wp2_with fail
      go_loop [7] (fun x => ∃ k : Nat, s.size ≤ k ∧ k ≤ s.size + 1 ∧ x = .int .i64 k ∧ Hid (∀ j, s.size ≤ j → j < k → Lib.occAt s.data.toList t.data.toList j = false)) (fun x => ((s.size : Int) + 1 - intOf x).toNat)
      case atStart => exact ⟨s.size, Nat.le_refl _, by omega, rfl, fun j h1 h2 => absurd h1 (by omega)⟩
      case round =>
        obtain ⟨k, hk0, hk1, rfl, H⟩ := hrel
        by_cases c : (k : Int) ≤ s.size - t.size
        · have he := occ_ext s t k
          have c' : (k : Int) + t.size ≤ s.size := by omega
          cases ho : Lib.occAt s.data.toList t.data.toList k with
          | true =>
            rw [ho] at he
            have hr := hh.out k hk0 (by omega) ho H.out
            clear ho
            go_wp2
            go_ret
            exact ⟨rfl, rfl⟩
          | false =>
            rw [ho] at he
            have H2 : Hid (∀ j, s.size ≤ j → j < k + 1 → Lib.occAt s.data.toList t.data.toList j = false) := fun j h1 h2 => by
              by_cases h3 : j = k
              · rw [h3]; exact ho
              · exact H.out j h1 (by omega)
            clear ho
            go_wp2
            go_round
            case rel => exact ⟨k + 1, by omega, by omega, by go_num, H2⟩
            case measure => simp [intOf]; omega
        · have hr := hmiss.out k (by omega) H.out
          go_wp2
          go_ret
          exact ⟨rfl, rfl⟩
    · rw [if_neg c2] at hh hmiss
      obtain ⟨f, rfl⟩ := Int.eq_ofNat_of_zero_le (a := i) (by omega)
      rw [Int.toNat_natCast] at hh hmiss
      go_enter Tryd.func30, Tryd.ntmps30
      go_wp2_with fail
      go_loop [7] (fun x => ∃ k : Nat, f ≤ k ∧ k ≤ s.size + 1 ∧ x = .int .i64 k ∧ Hid (∀ j, f ≤ j → j < k → Lib.occAt s.data.toList t.data.toList j = false)) (fun x => ((s.size : Int) + 1 - intOf x).toNat)
      case atStart => exact ⟨f, Nat.le_refl _, by omega, rfl, fun j h1 h2 => absurd h1 (by omega)⟩
      case round =>
        obtain ⟨k, hk0, hk1, rfl, H⟩ := hrel
        by_cases c : (k : Int) ≤ s.size - t.size
        · have he := occ_ext s t k
          have c' : (k : Int) + t.size ≤ s.size := by omega
          cases ho : Lib.occAt s.data.toList t.data.toList k with
          | true =>
            rw [ho] at he
            have hr := hh.out k hk0 (by omega) ho H.out
            clear ho
            go_wp2
            go_ret
            exact ⟨rfl, rfl⟩
          | false =>
            rw [ho] at he
            have H2 : Hid (∀ j, f ≤ j → j < k + 1 → Lib.occAt s.data.toList t.data.toList j = false) := fun j h1 h2 => by
              by_cases h3 : j = k
              · rw [h3]; exact ho
              · exact H.out j h1 (by omega)
            clear ho
            go_wp2
            go_round
            case rel => exact ⟨k + 1, by omega, by omega, by go_num, H2⟩
            case measure => simp [intOf]; omega
        · have hr := hmiss.out k (by omega) H.out
          go_wp2
          go_ret
          exact ⟨rfl, rfl⟩
end Go.Proofs.YtajmdpndbfmdmaaDoor
