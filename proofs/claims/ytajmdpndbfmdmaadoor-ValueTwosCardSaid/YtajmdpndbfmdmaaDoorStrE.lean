/-
  str.Plain returns what stands between two quotes, or where it is wrong. Conditions: none.
-/
import Derived.Test.YtajmdpndbfmdmaaDoorStrD
import Derived.OwnWalk
namespace Go.Proofs.YtajmdpndbfmdmaaDoor
open Go Go.RowKit

def plainR (s : ByteArray) : Except Nat (List UInt8) := Sp.plainF s.size s.data.toList 0 []
def plainV (s : ByteArray) : ByteArray × Nat × Nat :=
  if 65536 < s.size then (ByteArray.empty, 0, 3) else
  match plainR s with
  | .error p => (ByteArray.empty, p, 5)
  | .ok l => if 4096 < l.length then (ByteArray.empty, 0, 20) else (strOf l, 0, 0)
abbrev plainW (v : ByteArray × Nat × Nat) : Value := .tuple #[.string v.1, .int .i64 v.2.1, .int .i64 v.2.2]

theorem drop_cons (s : ByteArray) (k : Nat) (h : k < s.size) : s.data.toList.drop k = s[k]'h :: s.data.toList.drop (k + 1) := by
  have h' : k < s.data.toList.length := by rw [size_list]; exact h
  exact List.drop_eq_getElem_cons h'

theorem drop_ext (s : ByteArray) (k : Nat) : (s.extract k s.size).data.toList = s.data.toList.drop k := by
  rw [Lib.extract_data, List.take_of_length_le]
  rw [List.length_drop, size_list]; omega

/-- Where the reading stands: k bytes are read, acc is what came of them. -/
def PAt (s : ByteArray) (R : Except Nat (List UInt8)) (k : Nat) (acc : List UInt8) : Prop :=
  k ≤ s.size ∧ acc.length ≤ k ∧ ∃ n, s.size - k ≤ n ∧ Sp.plainF n (s.data.toList.drop k) k acc = R

theorem PAt.start (s : ByteArray) : PAt s (plainR s) 0 [] := ⟨by omega, by simp, s.size, by omega, rfl⟩
theorem PAt.stop {s : ByteArray} {R : Except Nat (List UInt8)} {k : Nat} {acc : List UInt8} (h : PAt s R k acc) (hk : s.size ≤ k) : R = .ok acc := by
  obtain ⟨_, _, n, _, e⟩ := h
  rw [← e, List.drop_of_length_le (by rw [size_list]; exact hk), Sp.plainF_nil]
theorem PAt.plain {s : ByteArray} {R : Except Nat (List UInt8)} {k : Nat} {acc : List UInt8} (h : PAt s R k acc) (hk : k < s.size) (u : UInt8) (hu : s[k]'hk = u) (h92 : u.toNat ≠ 92) :
    PAt s R (k + 1) (acc ++ [u]) := by
  obtain ⟨h1, h2, n, h3, e⟩ := h
  cases n with
  | zero => omega
  | succ n =>
    rw [drop_cons s k hk, hu, Sp.plainF, if_neg h92] at e
    exact ⟨by omega, by simp; omega, n, by omega, e⟩
theorem PAt.bad {s : ByteArray} {R : Except Nat (List UInt8)} {k : Nat} {acc : List UInt8} (h : PAt s R k acc) (hk : k < s.size) (u : UInt8) (hu : s[k]'hk = u) (h92 : u.toNat = 92)
    (h0 : (Sp.escL (s.data.toList.drop (k + 1))).2 = 0) : R = .error k := by
  obtain ⟨h1, h2, n, h3, e⟩ := h
  cases n with
  | zero => omega
  | succ n =>
    rw [drop_cons s k hk, hu, Sp.plainF, if_pos h92, if_pos h0] at e
    exact e.symm
theorem PAt.esc {s : ByteArray} {R : Except Nat (List UInt8)} {k : Nat} {acc : List UInt8} (h : PAt s R k acc) (hk : k < s.size) (u : UInt8) (hu : s[k]'hk = u) (h92 : u.toNat = 92)
    {c : UInt8} {j : Nat} (h0 : Sp.escL (s.data.toList.drop (k + 1)) = (c, j)) (hj : j ≠ 0) : PAt s R (k + j + 1) (acc ++ [c]) := by
  obtain ⟨h1, h2, n, h3, e⟩ := h
  cases n with
  | zero => omega
  | succ n =>
    have hb := (Sp.escL_snd (s.data.toList.drop (k + 1))).1
    rw [h0, List.length_drop, size_list] at hb
    simp only at hb
    rw [drop_cons s k hk, hu, Sp.plainF, if_pos h92, h0, if_neg hj, List.drop_drop] at e
    rw [show k + j + 1 = k + 1 + j from by omega]
    exact ⟨by omega, by simp; omega, n, by omega, e⟩

set_option maxRecDepth 100000 in
theorem plain_any (s : ByteArray) (w : World) :
    Calls Tryd.prog 59 #[.string s] w fun e w' => e = .returned (plainW (plainV s)) ∧ Below w.heap.size w w' := by
  obtain ⟨V, hV⟩ : ∃ V, V = plainV s := ⟨_, rfl⟩
  rw [← hV]
  unfold plainV at hV
  by_cases c0 : 65536 < s.size
  · rw [if_pos c0] at hV
    have hV' := Lib.hid hV
    have d0 : 65536 < (s.size : Int) := by omega
    clear hV c0
    go_enter Tryd.func59, Tryd.ntmps59
    go_wp2
    go_ret3
    exact ⟨by rw [hV'.out]; rfl, Below.refl _ _⟩
  · rw [if_neg c0] at hV
    have d0 : ¬ 65536 < (s.size : Int) := by omega
    obtain ⟨R, hR⟩ : ∃ R, R = plainR s := ⟨_, rfl⟩
    have hS := Lib.hid (PAt.start s)
    rw [← hR] at hV hS
    have hV' := Lib.hid hV
    clear hV hR
    go_enter Tryd.func59, Tryd.ntmps59
    go_wp2_with fail
    go_loopw [6] (fun i wr => ∃ (k : Nat) (acc : List UInt8), i = .int .i64 k ∧ Hid (PAt s R k acc) ∧ Hid (Bw w acc wr)) (fun i _ => ((s.size : Int) - intOf i).toNat)
    case atStart => exact ⟨0, [], rfl, hS, Lib.hid (bw_new w)⟩
    case round =>
      obtain ⟨k, acc, rfl, H, HB⟩ := hrel
      have hk := H.out.1
      have hal := Lib.hid H.out.2.1
      by_cases c : (k : Int) < s.size
      · obtain ⟨u, hu⟩ : ∃ u, u = s[k]'(by omega) := ⟨_, rfl⟩
        have hu' := hu.symm
        have hlt := u.toNat_lt
        clear hu
        by_cases c1 : u.toNat = 92
        · have d1 : ((u.toNat : Int) == 92) = true := by simp; omega
          have hq := Lib.hid (fun w' => escape_any (s.extract (k + 1) s.size) w')
          obtain ⟨p, hp⟩ : ∃ p, p = Sp.escL (s.data.toList.drop (k + 1)) := ⟨_, rfl⟩
          have hb := (Sp.escL_snd (s.data.toList.drop (k + 1))).1
          rw [List.length_drop, size_list] at hb
          unfold escV at hq
          rw [drop_ext] at hq
          rw [← hp] at hq hb
          obtain ⟨e0, j⟩ := p
          by_cases cj : j = 0
          · have hRk := Lib.hid (H.out.bad (by omega) u hu' c1 (by rw [← hp]; exact cj))
            have hz : ((j : Int) == 0) = true := by simp; omega
            clear hp cj
            go_wp2_with fail
            refine (hq.out _).mono ?_
            rintro e w2 ⟨rfl, rfl⟩
            go_wp2_with fail
            go_ret3
            exact ⟨by rw [hV'.out, hRk.out]; rfl, HB.out.2⟩
          · have hH2 := Lib.hid (H.out.esc (by omega) u hu' c1 hp.symm cj)
            have hz : ((j : Int) == 0) = false := by simp; omega
            clear hp cj
            go_wp2_with fail
            refine (hq.out _).mono ?_
            rintro e w2 ⟨rfl, rfl⟩
            go_wp2_with fail
            refine (bwByte HB e0 (by have := hal.out; omega)).mono ?_
            rintro e w3 ⟨rfl, H3⟩
            go_wp2_with fail
            refine ⟨⟨k + j + 1, _, by simp, hH2, H3⟩, by simp [intOf]; omega⟩
        · have d1 : ((u.toNat : Int) == 92) = false := by simp; omega
          have hH2 := Lib.hid (H.out.plain (by omega) u hu' c1)
          go_wp2_with fail
          refine (bwByte HB u (by have := hal.out; omega)).mono ?_
          rintro e w3 ⟨rfl, H3⟩
          go_wp2_with fail
          refine ⟨⟨k + 1, _, by simp, hH2, H3⟩, by simp [intOf]; omega⟩
      · have hRe := Lib.hid (H.out.stop (by omega))
        rw [hRe.out] at hV'
        by_cases c2 : 4096 < acc.length
        · have d2 : 4096 < (acc.length : Int) := by omega
          go_wp2_with fail
          refine (Tryd.Builder_Len _ _ _ _ HB.out.1).mono ?_
          rintro e w2 ⟨rfl, rfl⟩
          rw [Lib.byteCells_length]
          go_wp2_with fail
          go_ret3
          exact ⟨by rw [hV'.out, if_pos c2]; rfl, HB.out.2⟩
        · have d2 : ¬ 4096 < (acc.length : Int) := by omega
          go_wp2_with fail
          refine (Tryd.Builder_Len _ _ _ _ HB.out.1).mono ?_
          rintro e w2 ⟨rfl, rfl⟩
          rw [Lib.byteCells_length]
          go_wp2_with fail
          refine (Tryd.Builder_String_any _ _ _ _ HB.out.1 HB.out.2.size).mono ?_
          rintro e w3 ⟨rfl, h3⟩
          have h3' := Lib.hid (HB.out.2.trans h3)
          clear h3
          go_wp2_with fail
          go_ret3
          exact ⟨by rw [hV'.out, if_neg c2]; rfl, h3'.out⟩
end Go.Proofs.YtajmdpndbfmdmaaDoor
