/-
  num.Read returns what the plain theory says. Conditions: texts of at most 70,000 bytes.
  The walk of num.Read. Conditions: texts of at most 70,000 bytes.
  The document's Read returns the same. Conditions: texts of at most 70,000 bytes.
  bailiffref01.Tens returns the decimal numeral. Conditions: whole numbers of 64 bits above the least.
  bailiffref01.Tens of any whole number, num.Text and the document's Text return the numeral. Conditions: whole numbers of 64 bits above the least; the table of powers of ten lies.
  The document's Text; the walk of bailifflaw01.NumTexts. Conditions: the table of powers of ten lies.
-/
import Derived.Test.YtajmdpndbfmdmaaDoorPl
import Derived.Test.YtajmdpndbfmdmaaDoorNuB
import Derived.Test.YtajmdpndbfmdmaaDoorSt
import Derived.Lib.ItoaMem
import Derived.Lib.ItoaLen
import Derived.Laws.Runes
import Derived.Test.YtajmdpndbfmdmaaDoorNuA
import Derived.Test.YtajmdpndbfmdmaaDoorShelf
import Derived.Lib.AppendIntMem
import Derived.Lib.LaidTab
import Derived.WalkSmall
namespace Go.Proofs.YtajmdpndbfmdmaaDoor
open Go Go.RowKit

def valL (l : List UInt8) : Nat := l.foldl (fun a c => 10 * a + (c.toNat - 48)) 0
def dig (c : UInt8) : Bool := decide (48 ≤ c.toNat) && decide (c.toNat ≤ 57)
/-- What a text without blanks at its ends is worth. -/
def readD (neg : Bool) (d : List UInt8) : Option Int × Int :=
  if d = [] then (none, 0) else if d.all dig = false then (none, 0)
  else if 9007199254740991 < valL d ∨ (neg = true ∧ valL d = 0) then (some 0, 10) else (some (if neg then -(valL d : Int) else valL d), 0)
def readL : List UInt8 → Option Int × Int
  | [] => (some 0, 0)
  | c :: r => if c.toNat = 45 then readD true r else if c.toNat = 43 then readD false r else readD false (c :: r)

theorem valL_snoc (l : List UInt8) (c : UInt8) : valL (l ++ [c]) = 10 * valL l + (c.toNat - 48) := by unfold valL; rw [List.foldl_append]; rfl

/-- The worth of the first digits, cut at the greatest number of ours: and whether it was cut. -/
def RAt (d : List UInt8) (k : Nat) (v : Int) (g : Bool) : Prop :=
  (d.take k).all dig = true ∧ ((g = false ∧ v = valL (d.take k) ∧ valL (d.take k) ≤ 9007199254740991) ∨ (g = true ∧ v = 9007199254740991 ∧ 9007199254740991 < valL (d.take k)))

theorem RAt.start (d : List UInt8) : RAt d 0 0 false := ⟨rfl, .inl ⟨rfl, rfl, by show (0 : Nat) ≤ 9007199254740991; decide⟩⟩
theorem RAt.bound {d : List UInt8} {k : Nat} {v : Int} {g : Bool} (h : RAt d k v g) : 0 ≤ v ∧ v ≤ 9007199254740991 := by
  rcases h.2 with ⟨_, e, _⟩ | ⟨_, e, _⟩ <;> omega
theorem RAt.step {D : ByteArray} {k : Nat} {v : Int} {g : Bool} (h : RAt D.data.toList k v g) (hk : k < D.size) (u : UInt8) (hu : D[k]'hk = u) (h1 : 48 ≤ u.toNat) (h2 : u.toNat ≤ 57) :
    (9007199254740991 < v * 10 + ((u.toNat : Int) - 48) → RAt D.data.toList (k + 1) 9007199254740991 true) ∧ (¬ 9007199254740991 < v * 10 + ((u.toNat : Int) - 48) → RAt D.data.toList (k + 1) (v * 10 + ((u.toNat : Int) - 48)) g) := by
  have ht : D.data.toList.take (k + 1) = D.data.toList.take k ++ [u] := by rw [take_snoc D k hk, hu]
  have ha : (D.data.toList.take (k + 1)).all dig = true := by
    rw [ht, List.all_append, h.1]
    simp [dig, h1, h2]
  have hv : valL (D.data.toList.take (k + 1)) = 10 * valL (D.data.toList.take k) + (u.toNat - 48) := by rw [ht, valL_snoc]
  constructor
  · intro hb
    refine ⟨ha, .inr ⟨rfl, rfl, ?_⟩⟩
    rcases h.2 with ⟨_, e, _⟩ | ⟨_, e, _⟩ <;> omega
  · intro hb
    refine ⟨ha, ?_⟩
    rcases h.2 with ⟨e0, e, _⟩ | ⟨e0, e, _⟩
    · exact .inl ⟨e0, by omega, by omega⟩
    · omega
theorem not_dig {D : ByteArray} {k : Nat} (hk : k < D.size) (u : UInt8) (hu : D[k]'hk = u) (h : ¬ (48 ≤ u.toNat ∧ u.toNat ≤ 57)) (neg : Bool) : readD neg D.data.toList = (none, 0) := by
  have hm : u ∈ D.data.toList := by rw [← hu]; exact List.getElem_mem (by rw [size_list]; exact hk)
  unfold readD
  split
  · rfl
  · rw [if_pos]
    rw [← Bool.not_eq_true, List.all_eq_true]
    intro ha
    have := ha u hm
    simp [dig] at this
    omega
theorem RAt.fin {D : ByteArray} {k : Nat} {v : Int} {g : Bool} (h : RAt D.data.toList k v g) (hk : D.size ≤ k) (h0 : D.size ≠ 0) (neg : Bool) :
    (g = true ∧ readD neg D.data.toList = (some 0, 10)) ∨ (g = false ∧ neg = true ∧ v = 0 ∧ readD neg D.data.toList = (some 0, 10)) ∨
    (g = false ∧ (neg = true → v ≠ 0) ∧ readD neg D.data.toList = (some (if neg then -v else v), 0)) := by
  have ht : D.data.toList.take k = D.data.toList := List.take_of_length_le (by rw [size_list]; exact hk)
  unfold RAt at h
  rw [ht] at h
  have hne : D.data.toList ≠ [] := by intro e; have := size_list D; rw [e] at this; exact h0 this.symm
  unfold readD
  rw [if_neg hne, if_neg (by rw [h.1]; simp)]
  rcases h.2 with ⟨e0, e, h3⟩ | ⟨e0, e, h3⟩
  · by_cases hz : neg = true ∧ valL D.data.toList = 0
    · exact .inr (.inl ⟨e0, hz.1, by omega, by rw [if_pos (.inr hz)]⟩)
    · refine .inr (.inr ⟨e0, fun hn hv => hz ⟨hn, by omega⟩, ?_⟩)
      rw [if_neg (fun hc => hc.elim (fun h => by omega) hz), e]
  · exact .inl ⟨e0, by rw [if_pos (.inl h3)]⟩

theorem fits_W {n : Int} (h : n.natAbs < 9007199254740992) : Fl.Fits (Fl.W n) (some n) := ⟨rfl, h⟩
theorem fits_nan : Fl.Fits 9221120237041090561 none := ⟨by decide, by decide⟩
theorem fits_z : Fl.Fits 0 (some 0) := ⟨Fl.W_zero.symm, by decide⟩
end Go.Proofs.YtajmdpndbfmdmaaDoor
namespace Go.Proofs.YtajmdpndbfmdmaaDoor
open Go Go.RowKit

set_option maxHeartbeats 4000000 in
set_option maxRecDepth 100000 in
theorem read_any (s : ByteArray) (w : World) (hs : s.size ≤ 70000) :
    Calls Tryd.prog 39 #[.string s] w (OpPost (readL (trimV s).data.toList) w) := by
  have h := Any.strings_Trim_laid Tryd.lays160 (by kernel_rfl) s ⟨#[9, 10, 13, 32]⟩ w (by omega) (by decide) (Go.Proofs.ascii_of_all (by decide))
  have q : Hid (Calls Tryd.prog 87 #[.string s, .string ⟨#[9, 10, 13, 32]⟩] w fun e w' => e = .returned (.string (trimV s)) ∧ Below w.heap.size w w') := h
  clear h
  have hle := trimV_le s
  have qN := Lib.hid (fun w' => nan_any w')
  generalize trimV s = V at q hle ⊢
  obtain ⟨R, hR0⟩ : ∃ R, R = readL V.data.toList := ⟨_, rfl⟩
  rw [← hR0]
  by_cases c0 : V.size = 0
  · obtain rfl := empty_of c0
    have hR := Lib.hid hR0
    clear hR0 c0
    go_enter Tryd.func39, Tryd.ntmps39
    go_wp2_with fail
    refine q.out.mono ?_; rintro e w1 ⟨rfl, b1⟩
    have B1 := Lib.hid b1
    clear b1
    go_wp2_with fail
    go_ret2
    exact ⟨_, by rw [hR.out]; rfl, by rw [hR.out]; exact fits_z, B1.out⟩
  · have he := isEmpty_of c0
    have hp : 0 < V.size := by omega
    have hp' : 0 < (V.size : Int) := by omega
    obtain ⟨c, hc⟩ : ∃ c, V[0]'hp = c := ⟨_, rfl⟩
    have hcl := drop_cons V 0 hp
    rw [hc] at hcl
    have hlist : V.data.toList = c :: V.data.toList.drop 1 := hcl
    have hclt := c.toNat_lt
    rw [hlist, readL] at hR0
    have hx : (V.extract 1 V.size).data.toList = V.data.toList.drop 1 := drop_ext V 1
    have hxs : (V.extract 1 V.size).size = V.size - 1 := by rw [← size_list, hx, List.length_drop, size_list]
    by_cases c45 : c.toNat = 45
    · have d1 : ((c.toNat : Int) == 45) = true := by simp; omega
      rw [if_pos c45, ← hx] at hR0
      obtain ⟨D, hD⟩ : ∃ D, V.extract 1 V.size = D := ⟨_, rfl⟩
      rw [hD] at hR0 hxs
      have hL := Lib.hid hR0
      clear hR0 hx hcl hlist c45
      by_cases cd : D.size = 0
      · obtain rfl := empty_of cd
        have hR : Hid (R = (none, 0)) := hL.out
        clear hL cd hxs
        go_enter Tryd.func39, Tryd.ntmps39
        go_wp2_with fail
        refine q.out.mono ?_; rintro e w1 ⟨rfl, b1⟩
        have B1 := Lib.hid b1
        clear b1
        go_wp2_with fail
        refine (qN.out _).mono ?_; rintro e w' ⟨rfl, rfl⟩
        go_wp2_with fail
        go_ret2
        exact ⟨_, by rw [hR.out]; rfl, by rw [hR.out]; exact fits_nan, B1.out⟩
      · have hde := isEmpty_of cd
        have hdl : D.size ≤ 70000 := by omega
        clear hxs
        go_enter Tryd.func39, Tryd.ntmps39
        go_wp2_with fail
        refine q.out.mono ?_; rintro e w1 ⟨rfl, b1⟩
        have B1 := Lib.hid b1
        clear b1
        go_wp2_with fail
        go_loop [5, 6, 30] (fun v g i => ∃ (k : Nat) (a : Int) (b : Bool), k ≤ D.size ∧ i = .int .i64 k ∧ v = .int .i64 a ∧ g = .bool b ∧ Hid (RAt D.data.toList k a b)) (fun _ _ i => ((D.size : Int) - intOf i).toNat)
        case atStart => exact ⟨0, 0, false, by omega, rfl, rfl, rfl, RAt.start _⟩
        case round =>
          obtain ⟨k, a, b, hk, rfl, rfl, rfl, H⟩ := hrel
          obtain ⟨ha0, ha1⟩ := H.out.bound
          by_cases ck : (k : Int) < D.size
          · obtain ⟨u, hu⟩ : ∃ u, D[k]'(by omega) = u := ⟨_, rfl⟩
            have hult := u.toNat_lt
            by_cases hd : 48 ≤ u.toNat ∧ u.toNat ≤ 57
            · have e1 : ¬ (u.toNat : Int) < 48 := by omega
              have e2 : ¬ 57 < (u.toNat : Int) := by omega
              obtain ⟨s1, s2⟩ := H.out.step (by omega) u hu hd.1 hd.2
              by_cases hb : 9007199254740991 < a * 10 + ((u.toNat : Int) - 48)
              · have s1' := Lib.hid (s1 hb)
                clear s1 s2 hd
                go_wp2_with fail
                go_round
                case rel => exact ⟨k + 1, 9007199254740991, true, by omega, by go_num, rfl, rfl, s1'⟩
                case measure => simp [intOf]; omega
              · have s2' := Lib.hid (s2 hb)
                clear s1 s2 hd
                go_wp2_with fail
                go_round
                case rel => exact ⟨k + 1, _, b, by omega, by go_num, rfl, rfl, s2'⟩
                case measure => simp [intOf]; omega
            · have hR := Lib.hid (hL.out.trans (not_dig (by omega) u hu hd true))
              by_cases e1 : (u.toNat : Int) < 48
              · clear hd
                go_wp2_with fail
                refine (qN.out _).mono ?_; rintro e w' ⟨rfl, rfl⟩
                go_wp2_with fail
                go_ret2
                exact ⟨_, by rw [hR.out]; rfl, by rw [hR.out]; exact fits_nan, B1.out⟩
              · have e2 : 57 < (u.toNat : Int) := by omega
                clear hd
                go_wp2_with fail
                refine (qN.out _).mono ?_; rintro e w' ⟨rfl, rfl⟩
                go_wp2_with fail
                go_ret2
                exact ⟨_, by rw [hR.out]; rfl, by rw [hR.out]; exact fits_nan, B1.out⟩
          · rcases H.out.fin (by omega) (by omega) true with ⟨rfl, hf⟩ | ⟨rfl, hn, rfl, hf⟩ | ⟨rfl, hn, hf⟩
            · have hR := Lib.hid (hL.out.trans hf)
              clear hf
              go_wp2_with fail
              go_ret2
              exact ⟨_, by rw [hR.out]; rfl, by rw [hR.out]; exact fits_z, B1.out⟩
            · have hR := Lib.hid (hL.out.trans hf)
              clear hf
              go_wp2_with fail
              go_ret2
              exact ⟨_, by rw [hR.out]; rfl, by rw [hR.out]; exact fits_z, B1.out⟩
            · have hR := Lib.hid (hL.out.trans hf)
              clear hf
              have hW := Fl.floatOfInt_W (-a)
              have hn' := hn rfl
              go_wp2_with fail
              go_ret2
              exact ⟨_, by rw [hR.out]; rfl, by rw [hR.out]; exact fits_W (by first | omega | (simp; omega)), B1.out⟩
    · have d1 : ((c.toNat : Int) == 45) = false := by simp; omega
      rw [if_neg c45] at hR0
      by_cases c43 : c.toNat = 43
      · have d2 : ((c.toNat : Int) == 43) = true := by simp; omega
        rw [if_pos c43, ← hx] at hR0
        obtain ⟨D, hD⟩ : ∃ D, V.extract 1 V.size = D := ⟨_, rfl⟩
        rw [hD] at hR0 hxs
        have hL := Lib.hid hR0
        clear hR0 hx hcl hlist c45 c43
        by_cases cd : D.size = 0
        · obtain rfl := empty_of cd
          have hR : Hid (R = (none, 0)) := hL.out
          clear hL cd hxs
          go_enter Tryd.func39, Tryd.ntmps39
          go_wp2_with fail
          refine q.out.mono ?_; rintro e w1 ⟨rfl, b1⟩
          have B1 := Lib.hid b1
          clear b1
          go_wp2_with fail
          refine (qN.out _).mono ?_; rintro e w' ⟨rfl, rfl⟩
          go_wp2_with fail
          go_ret2
          exact ⟨_, by rw [hR.out]; rfl, by rw [hR.out]; exact fits_nan, B1.out⟩
        · have hde := isEmpty_of cd
          have hdl : D.size ≤ 70000 := by omega
          clear hxs
          go_enter Tryd.func39, Tryd.ntmps39
          go_wp2_with fail
          refine q.out.mono ?_; rintro e w1 ⟨rfl, b1⟩
          have B1 := Lib.hid b1
          clear b1
          go_wp2_with fail
          go_loop [5, 6, 30] (fun v g i => ∃ (k : Nat) (a : Int) (b : Bool), k ≤ D.size ∧ i = .int .i64 k ∧ v = .int .i64 a ∧ g = .bool b ∧ Hid (RAt D.data.toList k a b)) (fun _ _ i => ((D.size : Int) - intOf i).toNat)
          case atStart => exact ⟨0, 0, false, by omega, rfl, rfl, rfl, RAt.start _⟩
          case round =>
            obtain ⟨k, a, b, hk, rfl, rfl, rfl, H⟩ := hrel
            obtain ⟨ha0, ha1⟩ := H.out.bound
            by_cases ck : (k : Int) < D.size
            · obtain ⟨u, hu⟩ : ∃ u, D[k]'(by omega) = u := ⟨_, rfl⟩
              have hult := u.toNat_lt
              by_cases hd : 48 ≤ u.toNat ∧ u.toNat ≤ 57
              · have e1 : ¬ (u.toNat : Int) < 48 := by omega
                have e2 : ¬ 57 < (u.toNat : Int) := by omega
                obtain ⟨s1, s2⟩ := H.out.step (by omega) u hu hd.1 hd.2
                by_cases hb : 9007199254740991 < a * 10 + ((u.toNat : Int) - 48)
                · have s1' := Lib.hid (s1 hb)
                  clear s1 s2 hd
                  go_wp2_with fail
                  go_round
                  case rel => exact ⟨k + 1, 9007199254740991, true, by omega, by go_num, rfl, rfl, s1'⟩
                  case measure => simp [intOf]; omega
                · have s2' := Lib.hid (s2 hb)
                  clear s1 s2 hd
                  go_wp2_with fail
                  go_round
                  case rel => exact ⟨k + 1, _, b, by omega, by go_num, rfl, rfl, s2'⟩
                  case measure => simp [intOf]; omega
              · have hR := Lib.hid (hL.out.trans (not_dig (by omega) u hu hd false))
                by_cases e1 : (u.toNat : Int) < 48
                · clear hd
                  go_wp2_with fail
                  refine (qN.out _).mono ?_; rintro e w' ⟨rfl, rfl⟩
                  go_wp2_with fail
                  go_ret2
                  exact ⟨_, by rw [hR.out]; rfl, by rw [hR.out]; exact fits_nan, B1.out⟩
                · have e2 : 57 < (u.toNat : Int) := by omega
                  clear hd
                  go_wp2_with fail
                  refine (qN.out _).mono ?_; rintro e w' ⟨rfl, rfl⟩
                  go_wp2_with fail
                  go_ret2
                  exact ⟨_, by rw [hR.out]; rfl, by rw [hR.out]; exact fits_nan, B1.out⟩
            · rcases H.out.fin (by omega) (by omega) false with ⟨rfl, hf⟩ | ⟨rfl, hn, rfl, hf⟩ | ⟨rfl, hn, hf⟩
              · have hR := Lib.hid (hL.out.trans hf)
                clear hf
                go_wp2_with fail
                go_ret2
                exact ⟨_, by rw [hR.out]; rfl, by rw [hR.out]; exact fits_z, B1.out⟩
              · cases hn
              · have hR := Lib.hid (hL.out.trans hf)
                clear hf
                have hW := Fl.floatOfInt_W a
                clear hn
                go_wp2_with fail
                go_ret2
                exact ⟨_, by rw [hR.out]; rfl, by rw [hR.out]; exact fits_W (by first | omega | (simp; omega)), B1.out⟩
      · have d2 : ((c.toNat : Int) == 43) = false := by simp; omega
        rw [if_neg c43, ← hlist] at hR0
        have hL := Lib.hid hR0
        clear hR0 hx hcl hlist c45 c43 hxs
        go_enter Tryd.func39, Tryd.ntmps39
        go_wp2_with fail
        refine q.out.mono ?_; rintro e w1 ⟨rfl, b1⟩
        have B1 := Lib.hid b1
        clear b1
        go_wp2_with fail
        go_loop [5, 6, 30] (fun v g i => ∃ (k : Nat) (a : Int) (b : Bool), k ≤ V.size ∧ i = .int .i64 k ∧ v = .int .i64 a ∧ g = .bool b ∧ Hid (RAt V.data.toList k a b)) (fun _ _ i => ((V.size : Int) - intOf i).toNat)
        case atStart => exact ⟨0, 0, false, by omega, rfl, rfl, rfl, RAt.start _⟩
        case round =>
          obtain ⟨k, a, b, hk, rfl, rfl, rfl, H⟩ := hrel
          obtain ⟨ha0, ha1⟩ := H.out.bound
          by_cases ck : (k : Int) < V.size
          · obtain ⟨u, hu⟩ : ∃ u, V[k]'(by omega) = u := ⟨_, rfl⟩
            have hult := u.toNat_lt
            by_cases hd : 48 ≤ u.toNat ∧ u.toNat ≤ 57
            · have e1 : ¬ (u.toNat : Int) < 48 := by omega
              have e2 : ¬ 57 < (u.toNat : Int) := by omega
              obtain ⟨s1, s2⟩ := H.out.step (by omega) u hu hd.1 hd.2
              by_cases hb : 9007199254740991 < a * 10 + ((u.toNat : Int) - 48)
              · have s1' := Lib.hid (s1 hb)
                clear s1 s2 hd
                go_wp2_with fail
                go_round
                case rel => exact ⟨k + 1, 9007199254740991, true, by omega, by go_num, rfl, rfl, s1'⟩
                case measure => simp [intOf]; omega
              · have s2' := Lib.hid (s2 hb)
                clear s1 s2 hd
                go_wp2_with fail
                go_round
                case rel => exact ⟨k + 1, _, b, by omega, by go_num, rfl, rfl, s2'⟩
                case measure => simp [intOf]; omega
            · have hR := Lib.hid (hL.out.trans (not_dig (by omega) u hu hd false))
              by_cases e1 : (u.toNat : Int) < 48
              · clear hd
                go_wp2_with fail
                refine (qN.out _).mono ?_; rintro e w' ⟨rfl, rfl⟩
                go_wp2_with fail
                go_ret2
                exact ⟨_, by rw [hR.out]; rfl, by rw [hR.out]; exact fits_nan, B1.out⟩
              · have e2 : 57 < (u.toNat : Int) := by omega
                clear hd
                go_wp2_with fail
                refine (qN.out _).mono ?_; rintro e w' ⟨rfl, rfl⟩
                go_wp2_with fail
                go_ret2
                exact ⟨_, by rw [hR.out]; rfl, by rw [hR.out]; exact fits_nan, B1.out⟩
          · rcases H.out.fin (by omega) (by omega) false with ⟨rfl, hf⟩ | ⟨rfl, hn, rfl, hf⟩ | ⟨rfl, hn, hf⟩
            · have hR := Lib.hid (hL.out.trans hf)
              clear hf
              go_wp2_with fail
              go_ret2
              exact ⟨_, by rw [hR.out]; rfl, by rw [hR.out]; exact fits_z, B1.out⟩
            · cases hn
            · have hR := Lib.hid (hL.out.trans hf)
              clear hf
              have hW := Fl.floatOfInt_W a
              clear hn
              go_wp2_with fail
              go_ret2
              exact ⟨_, by rw [hR.out]; rfl, by rw [hR.out]; exact fits_W (by first | omega | (simp; omega)), B1.out⟩
end Go.Proofs.YtajmdpndbfmdmaaDoor
namespace Go.Proofs.YtajmdpndbfmdmaaDoor
open Go Go.RowKit

theorem take_from (s : ByteArray) (f k : Nat) (hf : f ≤ k) (h : k < s.size) : (s.data.toList.drop f).take (k + 1 - f) = (s.data.toList.drop f).take (k - f) ++ [s[k]'h] := by
  have h' : k - f < (s.data.toList.drop f).length := by rw [List.length_drop, size_list]; omega
  rw [show k + 1 - f = (k - f) + 1 from by omega, List.take_succ_eq_append_getElem h', List.getElem_drop]
  congr 2
  show s.data.toList[f + (k - f)]'_ = s.data.toList[k]'_
  congr 1; omega
theorem valL_append (l m : List UInt8) : valL l ≤ valL (l ++ m) := by
  induction m generalizing l with
  | nil => simp
  | cons c m ih =>
    have h := ih (l ++ [c])
    rw [valL_snoc] at h
    rw [List.append_cons]
    omega
theorem valL_take (l : List UInt8) (k : Nat) : valL (l.take k) ≤ valL l := by
  have := valL_append (l.take k) (l.drop k)
  rwa [List.take_append_drop] at this

/-- All digits from place f to place k. -/
def DAt (s : ByteArray) (f k : Nat) : Prop := ((s.data.toList.drop f).take (k - f)).all dig = true
/-- The worth of the digits from place f to place k. -/
def VAt (s : ByteArray) (f k : Nat) (v : Int) : Prop := v = valL ((s.data.toList.drop f).take (k - f)) ∧ v ≤ 9007199254740991
theorem DAt.start (s : ByteArray) (f : Nat) : DAt s f f := by unfold DAt; rw [Nat.sub_self]; rfl
theorem VAt.start (s : ByteArray) (f : Nat) : VAt s f f 0 := by unfold VAt; rw [Nat.sub_self]; exact ⟨rfl, by decide⟩
theorem DAt.step {s : ByteArray} {f k : Nat} (h : DAt s f k) (hf : f ≤ k) (hk : k < s.size) (u : UInt8) (hu : s[k]'hk = u) (hd : 48 ≤ u.toNat ∧ u.toNat ≤ 57) : DAt s f (k + 1) := by
  unfold DAt at h ⊢
  rw [take_from s f k hf hk, hu, List.all_append, h]
  simp [dig, hd.1, hd.2]
theorem DAt.fin {s : ByteArray} {f k : Nat} (h : DAt s f k) (hk : s.size ≤ k) : (s.data.toList.drop f).all dig = true := by
  unfold DAt at h
  rwa [List.take_of_length_le (by rw [List.length_drop, size_list]; omega)] at h
theorem dig_of {s : ByteArray} {f k : Nat} (h : (s.data.toList.drop f).all dig = true) (hf : f ≤ k) (hk : k < s.size) : 48 ≤ (s[k]'hk).toNat ∧ (s[k]'hk).toNat ≤ 57 := by
  have hm : s[k]'hk ∈ s.data.toList.drop f := by
    rw [List.mem_iff_getElem]
    refine ⟨k - f, by rw [List.length_drop, size_list]; omega, ?_⟩
    rw [List.getElem_drop]
    show s.data.toList[f + (k - f)]'_ = s.data.toList[k]'_
    congr 1; omega
  have := List.all_eq_true.1 h _ hm
  simpa [dig] using this
theorem VAt.step {s : ByteArray} {f k : Nat} {v : Int} (h : VAt s f k v) (hf : f ≤ k) (hk : k < s.size) (u : UInt8) (hu : s[k]'hk = u) (hd : 48 ≤ u.toNat ∧ u.toNat ≤ 57) :
    (¬ 9007199254740991 < 10 * v + (u.toNat : Int) - 48 → VAt s f (k + 1) (10 * v + (u.toNat : Int) - 48)) ∧ (9007199254740991 < 10 * v + (u.toNat : Int) - 48 → 9007199254740991 < valL (s.data.toList.drop f)) := by
  have e : valL ((s.data.toList.drop f).take (k + 1 - f)) = 10 * valL ((s.data.toList.drop f).take (k - f)) + (u.toNat - 48) := by rw [take_from s f k hf hk, hu, valL_snoc]
  have hv := h.1
  constructor
  · intro hb; exact ⟨by rw [e]; omega, by omega⟩
  · intro hb
    have := valL_take (s.data.toList.drop f) (k + 1 - f)
    omega
theorem VAt.fin {s : ByteArray} {f k : Nat} {v : Int} (h : VAt s f k v) (hk : s.size ≤ k) : v = valL (s.data.toList.drop f) ∧ v ≤ 9007199254740991 ∧ 0 ≤ v := by
  have h1 := h.1
  rw [List.take_of_length_le (by rw [List.length_drop, size_list]; omega)] at h1
  exact ⟨h1, h.2, by omega⟩
theorem readD_not {s : ByteArray} {f k : Nat} (hf : f ≤ k) (hk : k < s.size) (u : UInt8) (hu : s[k]'hk = u) (hd : ¬ (48 ≤ u.toNat ∧ u.toNat ≤ 57)) (neg : Bool) : readD neg (s.data.toList.drop f) = (none, 0) := by
  unfold readD
  split
  · rfl
  · rw [if_pos]
    rw [← Bool.not_eq_true]
    intro ha
    have := dig_of ha hf hk
    rw [hu] at this
    exact hd this
theorem readD_big {d : List UInt8} (h0 : d ≠ []) (ha : d.all dig = true) (h : 9007199254740991 < valL d) (neg : Bool) : readD neg d = (some 0, 10) := by
  unfold readD
  rw [if_neg h0, if_neg (by rw [ha]; simp), if_pos (.inl h)]
theorem readD_fin {d : List UInt8} (h0 : d ≠ []) (ha : d.all dig = true) (v : Int) (h : v = valL d) (hv : v ≤ 9007199254740991) (neg : Bool) :
    (neg = true → v = 0 → readD neg d = (some 0, 10)) ∧ ((neg = true → v ≠ 0) → readD neg d = (some (if neg then -v else v), 0)) := by
  unfold readD
  rw [if_neg h0, if_neg (by rw [ha]; simp)]
  constructor
  · intro h1 h2; rw [if_pos (.inr ⟨h1, by omega⟩)]
  · intro h1
    rw [if_neg (fun hc => hc.elim (fun h => by omega) (fun h2 => h1 h2.1 (by omega))), h]
theorem drop_ne {s : ByteArray} {f : Nat} (h : f < s.size) : s.data.toList.drop f ≠ [] := by
  intro e
  have := congrArg List.length e
  rw [List.length_drop, size_list] at this
  simp at this; omega

set_option maxHeartbeats 4000000 in
set_option maxRecDepth 100000 in
theorem refRead_any (s : ByteArray) (w : World) (hs : s.size ≤ 70000) :
    Calls Tryd.prog 40 #[.string s] w (OpPost (readL (trimV s).data.toList) w) := by
  have q := Lib.hid (bare_any s w hs)
  have hle := trimV_le s
  have qN := Lib.hid (fun w' => refNaN_any w')
  generalize trimV s = V at q hle ⊢
  obtain ⟨R, hR0⟩ : ∃ R, R = readL V.data.toList := ⟨_, rfl⟩
  rw [← hR0]
  by_cases c0 : V.size = 0
  · obtain rfl := empty_of c0
    have hR := Lib.hid hR0
    clear hR0 c0
    go_enter Tryd.func40, Tryd.ntmps40
    go_wp2_with fail
    refine q.out.mono ?_; rintro e w1 ⟨rfl, rfl⟩
    go_wp2_with fail
    go_ret2
    exact ⟨_, by rw [hR.out]; rfl, by rw [hR.out]; exact fits_z, Below.refl _ _⟩
  · have he := isEmpty_of c0
    have hp : 0 < V.size := by omega
    have hp' : 0 < (V.size : Int) := by omega
    obtain ⟨c, hc⟩ : ∃ c, V[0]'hp = c := ⟨_, rfl⟩
    have hcl := drop_cons V 0 hp
    rw [hc] at hcl
    have hlist : V.data.toList = c :: V.data.toList.drop 1 := hcl
    have hclt := c.toNat_lt
    rw [hlist, readL, ← hlist] at hR0
    by_cases c45 : c.toNat = 45
    · have d1 : ((c.toNat : Int) == 45) = true := by simp; omega
      rw [if_pos c45] at hR0
      have hL := Lib.hid hR0
      clear hR0 hcl hlist c45
      by_cases cd : V.size = 1
      · have hd' : ((1 : Int) == (V.size : Int)) = true := by simp; omega
        have hR : Hid (R = (none, 0)) := by
          rw [hL.out, List.drop_of_length_le (by rw [size_list]; omega)]; exact Lib.hid rfl
        go_enter Tryd.func40, Tryd.ntmps40
        go_wp2_with fail
        refine q.out.mono ?_; rintro e w1 ⟨rfl, rfl⟩
        go_wp2_with fail
        refine (qN.out _).mono ?_; rintro e w' ⟨z, rfl, hz, rfl⟩
        have hz' := Lib.hid hz
        clear hz
        go_wp2_with fail
        go_ret2
        exact ⟨_, by rw [hR.out]; rfl, by rw [hR.out]; exact hz'.out, Below.drew (Below.refl _ _)⟩
      · have hd' : ((1 : Int) == (V.size : Int)) = false := by simp; omega
        have h1 : 1 < V.size := by omega
        go_enter Tryd.func40, Tryd.ntmps40
        go_wp2_with fail
        refine q.out.mono ?_; rintro e w1 ⟨rfl, rfl⟩
        go_wp2_with fail
        go_loop [6] (fun i => ∃ k : Nat, 1 ≤ k ∧ k ≤ V.size ∧ i = .int .i64 k ∧ Hid (DAt V 1 k)) (fun i => ((V.size : Int) - intOf i).toNat)
        case atStart => exact ⟨1, by omega, by omega, rfl, DAt.start _ _⟩
        case round =>
          obtain ⟨k, hf, hk, rfl, H⟩ := hrel
          by_cases ck : (k : Int) < V.size
          · obtain ⟨u, hu⟩ : ∃ u, V[k]'(by omega) = u := ⟨_, rfl⟩
            by_cases hd : 48 ≤ u.toNat ∧ u.toNat ≤ 57
            · have e1 : ¬ (u.toNat : Int) < 48 := by omega
              have e2 : ¬ 57 < (u.toNat : Int) := by omega
              have H2 := Lib.hid (H.out.step hf (by omega) u hu hd)
              clear hd
              go_wp2_with fail
              go_round
              case rel => exact ⟨k + 1, by omega, by omega, by go_num, H2⟩
              case measure => simp [intOf]; omega
            · have hR := Lib.hid (hL.out.trans (readD_not hf (by omega) u hu hd true))
              by_cases e1 : (u.toNat : Int) < 48
              · clear hd
                go_wp2_with fail
                refine (qN.out _).mono ?_; rintro e w' ⟨z, rfl, hz, rfl⟩
                have hz' := Lib.hid hz
                clear hz
                go_wp2_with fail
                go_ret2
                exact ⟨_, by rw [hR.out]; rfl, by rw [hR.out]; exact hz'.out, Below.drew (Below.refl _ _)⟩
              · have e2 : 57 < (u.toNat : Int) := by omega
                clear hd
                go_wp2_with fail
                refine (qN.out _).mono ?_; rintro e w' ⟨z, rfl, hz, rfl⟩
                have hz' := Lib.hid hz
                clear hz
                go_wp2_with fail
                go_ret2
                exact ⟨_, by rw [hR.out]; rfl, by rw [hR.out]; exact hz'.out, Below.drew (Below.refl _ _)⟩
          · have hall := Lib.hid (H.out.fin (by omega))
            clear H
            go_wp2_with fail
            go_loop [7, 8] (fun n i => ∃ (j : Nat) (v : Int), 1 ≤ j ∧ j ≤ V.size ∧ i = .int .i64 j ∧ n = .int .i64 v ∧ 0 ≤ v ∧ Hid (VAt V 1 j v)) (fun _ i => ((V.size : Int) - intOf i).toNat)
            case atStart => exact ⟨1, 0, by omega, by omega, rfl, rfl, by omega, VAt.start _ _⟩
            case round =>
              obtain ⟨j, v, hfj, hj, rfl, rfl, hv0, HV⟩ := hrel
              have hv1 := HV.out.2
              by_cases cj : (j : Int) < V.size
              · obtain ⟨u, hu⟩ : ∃ u, V[j]'(by omega) = u := ⟨_, rfl⟩
                have hd := dig_of hall.out hfj (by omega : j < V.size)
                rw [hu] at hd
                obtain ⟨hd1, hd2⟩ := hd
                have hd1' : (48 : Int) ≤ u.toNat := by omega
                have hd2' : (u.toNat : Int) ≤ 57 := by omega
                obtain ⟨s1, s2⟩ := HV.out.step hfj (by omega) u hu ⟨hd1, hd2⟩
                by_cases hb : 9007199254740991 < 10 * v + (u.toNat : Int) - 48
                · have hR := Lib.hid (hL.out.trans (readD_big (drop_ne (by omega)) hall.out (s2 hb) true))
                  clear s1 s2 hd1 hd2
                  go_wp2_with fail
                  go_ret2
                  exact ⟨_, by rw [hR.out]; rfl, by rw [hR.out]; exact fits_z, Below.refl _ _⟩
                · have H2 := Lib.hid (s1 hb)
                  clear s1 s2 hd1 hd2
                  go_wp2_with fail
                  go_round
                  case rel => exact ⟨j + 1, _, by omega, by omega, by go_num, rfl, by omega, H2⟩
                  case measure => simp [intOf]; omega
              · obtain ⟨f1, f2, f3⟩ := HV.out.fin (by omega)
                obtain ⟨g1, g2⟩ := readD_fin (drop_ne (by omega : 1 < V.size)) hall.out v f1 f2 true
                clear f1
                by_cases v0 : v = 0
                · have hR := Lib.hid (hL.out.trans (g1 rfl v0))
                  subst v0
                  clear g1 g2
                  go_wp2_with fail
                  go_ret2
                  exact ⟨_, by rw [hR.out]; rfl, by rw [hR.out]; exact fits_z, Below.refl _ _⟩
                · have hR := Lib.hid (hL.out.trans (g2 (fun _ => v0)))
                  have hW := Fl.floatOfInt_W (-v)
                  have v0' : (v == 0) = false := by simpa using v0
                  clear g1 g2
                  go_wp2_with fail
                  go_ret2
                  exact ⟨_, by rw [hR.out]; rfl, by rw [hR.out]; exact fits_W (by first | omega | (simp; omega)), Below.refl _ _⟩
    · have d1 : ((c.toNat : Int) == 45) = false := by simp; omega
      rw [if_neg c45] at hR0
      by_cases c43 : c.toNat = 43
      · have d2 : ((c.toNat : Int) == 43) = true := by simp; omega
        rw [if_pos c43] at hR0
        have hL := Lib.hid hR0
        clear hR0 hcl hlist c45 c43
        by_cases cd : V.size = 1
        · have hd' : ((1 : Int) == (V.size : Int)) = true := by simp; omega
          have hR : Hid (R = (none, 0)) := by
            rw [hL.out, List.drop_of_length_le (by rw [size_list]; omega)]; exact Lib.hid rfl
          go_enter Tryd.func40, Tryd.ntmps40
          go_wp2_with fail
          refine q.out.mono ?_; rintro e w1 ⟨rfl, rfl⟩
          go_wp2_with fail
          refine (qN.out _).mono ?_; rintro e w' ⟨z, rfl, hz, rfl⟩
          have hz' := Lib.hid hz
          clear hz
          go_wp2_with fail
          go_ret2
          exact ⟨_, by rw [hR.out]; rfl, by rw [hR.out]; exact hz'.out, Below.drew (Below.refl _ _)⟩
        · have hd' : ((1 : Int) == (V.size : Int)) = false := by simp; omega
          have h1 : 1 < V.size := by omega
          go_enter Tryd.func40, Tryd.ntmps40
          go_wp2_with fail
          refine q.out.mono ?_; rintro e w1 ⟨rfl, rfl⟩
          go_wp2_with fail
          go_loop [6] (fun i => ∃ k : Nat, 1 ≤ k ∧ k ≤ V.size ∧ i = .int .i64 k ∧ Hid (DAt V 1 k)) (fun i => ((V.size : Int) - intOf i).toNat)
          case atStart => exact ⟨1, by omega, by omega, rfl, DAt.start _ _⟩
          case round =>
            obtain ⟨k, hf, hk, rfl, H⟩ := hrel
            by_cases ck : (k : Int) < V.size
            · obtain ⟨u, hu⟩ : ∃ u, V[k]'(by omega) = u := ⟨_, rfl⟩
              by_cases hd : 48 ≤ u.toNat ∧ u.toNat ≤ 57
              · have e1 : ¬ (u.toNat : Int) < 48 := by omega
                have e2 : ¬ 57 < (u.toNat : Int) := by omega
                have H2 := Lib.hid (H.out.step hf (by omega) u hu hd)
                clear hd
                go_wp2_with fail
                go_round
                case rel => exact ⟨k + 1, by omega, by omega, by go_num, H2⟩
                case measure => simp [intOf]; omega
              · have hR := Lib.hid (hL.out.trans (readD_not hf (by omega) u hu hd false))
                by_cases e1 : (u.toNat : Int) < 48
                · clear hd
                  go_wp2_with fail
                  refine (qN.out _).mono ?_; rintro e w' ⟨z, rfl, hz, rfl⟩
                  have hz' := Lib.hid hz
                  clear hz
                  go_wp2_with fail
                  go_ret2
                  exact ⟨_, by rw [hR.out]; rfl, by rw [hR.out]; exact hz'.out, Below.drew (Below.refl _ _)⟩
                · have e2 : 57 < (u.toNat : Int) := by omega
                  clear hd
                  go_wp2_with fail
                  refine (qN.out _).mono ?_; rintro e w' ⟨z, rfl, hz, rfl⟩
                  have hz' := Lib.hid hz
                  clear hz
                  go_wp2_with fail
                  go_ret2
                  exact ⟨_, by rw [hR.out]; rfl, by rw [hR.out]; exact hz'.out, Below.drew (Below.refl _ _)⟩
            · have hall := Lib.hid (H.out.fin (by omega))
              clear H
              go_wp2_with fail
              go_loop [7, 8] (fun n i => ∃ (j : Nat) (v : Int), 1 ≤ j ∧ j ≤ V.size ∧ i = .int .i64 j ∧ n = .int .i64 v ∧ 0 ≤ v ∧ Hid (VAt V 1 j v)) (fun _ i => ((V.size : Int) - intOf i).toNat)
              case atStart => exact ⟨1, 0, by omega, by omega, rfl, rfl, by omega, VAt.start _ _⟩
              case round =>
                obtain ⟨j, v, hfj, hj, rfl, rfl, hv0, HV⟩ := hrel
                have hv1 := HV.out.2
                by_cases cj : (j : Int) < V.size
                · obtain ⟨u, hu⟩ : ∃ u, V[j]'(by omega) = u := ⟨_, rfl⟩
                  have hd := dig_of hall.out hfj (by omega : j < V.size)
                  rw [hu] at hd
                  obtain ⟨hd1, hd2⟩ := hd
                  have hd1' : (48 : Int) ≤ u.toNat := by omega
                  have hd2' : (u.toNat : Int) ≤ 57 := by omega
                  obtain ⟨s1, s2⟩ := HV.out.step hfj (by omega) u hu ⟨hd1, hd2⟩
                  by_cases hb : 9007199254740991 < 10 * v + (u.toNat : Int) - 48
                  · have hR := Lib.hid (hL.out.trans (readD_big (drop_ne (by omega)) hall.out (s2 hb) false))
                    clear s1 s2 hd1 hd2
                    go_wp2_with fail
                    go_ret2
                    exact ⟨_, by rw [hR.out]; rfl, by rw [hR.out]; exact fits_z, Below.refl _ _⟩
                  · have H2 := Lib.hid (s1 hb)
                    clear s1 s2 hd1 hd2
                    go_wp2_with fail
                    go_round
                    case rel => exact ⟨j + 1, _, by omega, by omega, by go_num, rfl, by omega, H2⟩
                    case measure => simp [intOf]; omega
                · obtain ⟨f1, f2, f3⟩ := HV.out.fin (by omega)
                  obtain ⟨g1, g2⟩ := readD_fin (drop_ne (by omega : 1 < V.size)) hall.out v f1 f2 false
                  clear f1
                  have hR := Lib.hid (hL.out.trans (g2 (fun h => by cases h)))
                  have hW := Fl.floatOfInt_W v
                  clear g1 g2
                  go_wp2_with fail
                  go_ret2
                  exact ⟨_, by rw [hR.out]; rfl, by rw [hR.out]; exact fits_W (by first | omega | (simp; omega)), Below.refl _ _⟩
      · have d2 : ((c.toNat : Int) == 43) = false := by simp; omega
        rw [if_neg c43] at hR0
        have hL : Hid (R = readD false (V.data.toList.drop 0)) := hR0
        have hd' : ((0 : Int) == (V.size : Int)) = false := by simp; omega
        clear hR0 hcl hlist c45 c43
        go_enter Tryd.func40, Tryd.ntmps40
        go_wp2_with fail
        refine q.out.mono ?_; rintro e w1 ⟨rfl, rfl⟩
        go_wp2_with fail
        go_loop [6] (fun i => ∃ k : Nat, 0 ≤ k ∧ k ≤ V.size ∧ i = .int .i64 k ∧ Hid (DAt V 0 k)) (fun i => ((V.size : Int) - intOf i).toNat)
        case atStart => exact ⟨0, by omega, by omega, rfl, DAt.start _ _⟩
        case round =>
          obtain ⟨k, hf, hk, rfl, H⟩ := hrel
          by_cases ck : (k : Int) < V.size
          · obtain ⟨u, hu⟩ : ∃ u, V[k]'(by omega) = u := ⟨_, rfl⟩
            by_cases hd : 48 ≤ u.toNat ∧ u.toNat ≤ 57
            · have e1 : ¬ (u.toNat : Int) < 48 := by omega
              have e2 : ¬ 57 < (u.toNat : Int) := by omega
              have H2 := Lib.hid (H.out.step hf (by omega) u hu hd)
              clear hd
              go_wp2_with fail
              go_round
              case rel => exact ⟨k + 1, by omega, by omega, by go_num, H2⟩
              case measure => simp [intOf]; omega
            · have hR := Lib.hid (hL.out.trans (readD_not hf (by omega) u hu hd false))
              by_cases e1 : (u.toNat : Int) < 48
              · clear hd
                go_wp2_with fail
                refine (qN.out _).mono ?_; rintro e w' ⟨z, rfl, hz, rfl⟩
                have hz' := Lib.hid hz
                clear hz
                go_wp2_with fail
                go_ret2
                exact ⟨_, by rw [hR.out]; rfl, by rw [hR.out]; exact hz'.out, Below.drew (Below.refl _ _)⟩
              · have e2 : 57 < (u.toNat : Int) := by omega
                clear hd
                go_wp2_with fail
                refine (qN.out _).mono ?_; rintro e w' ⟨z, rfl, hz, rfl⟩
                have hz' := Lib.hid hz
                clear hz
                go_wp2_with fail
                go_ret2
                exact ⟨_, by rw [hR.out]; rfl, by rw [hR.out]; exact hz'.out, Below.drew (Below.refl _ _)⟩
          · have hall := Lib.hid (H.out.fin (by omega))
            clear H
            go_wp2_with fail
            go_loop [7, 8] (fun n i => ∃ (j : Nat) (v : Int), 0 ≤ j ∧ j ≤ V.size ∧ i = .int .i64 j ∧ n = .int .i64 v ∧ 0 ≤ v ∧ Hid (VAt V 0 j v)) (fun _ i => ((V.size : Int) - intOf i).toNat)
            case atStart => exact ⟨0, 0, by omega, by omega, rfl, rfl, by omega, VAt.start _ _⟩
            case round =>
              obtain ⟨j, v, hfj, hj, rfl, rfl, hv0, HV⟩ := hrel
              have hv1 := HV.out.2
              by_cases cj : (j : Int) < V.size
              · obtain ⟨u, hu⟩ : ∃ u, V[j]'(by omega) = u := ⟨_, rfl⟩
                have hd := dig_of hall.out hfj (by omega : j < V.size)
                rw [hu] at hd
                obtain ⟨hd1, hd2⟩ := hd
                have hd1' : (48 : Int) ≤ u.toNat := by omega
                have hd2' : (u.toNat : Int) ≤ 57 := by omega
                obtain ⟨s1, s2⟩ := HV.out.step hfj (by omega) u hu ⟨hd1, hd2⟩
                by_cases hb : 9007199254740991 < 10 * v + (u.toNat : Int) - 48
                · have hR := Lib.hid (hL.out.trans (readD_big (drop_ne (by omega)) hall.out (s2 hb) false))
                  clear s1 s2 hd1 hd2
                  go_wp2_with fail
                  go_ret2
                  exact ⟨_, by rw [hR.out]; rfl, by rw [hR.out]; exact fits_z, Below.refl _ _⟩
                · have H2 := Lib.hid (s1 hb)
                  clear s1 s2 hd1 hd2
                  go_wp2_with fail
                  go_round
                  case rel => exact ⟨j + 1, _, by omega, by omega, by go_num, rfl, by omega, H2⟩
                  case measure => simp [intOf]; omega
              · obtain ⟨f1, f2, f3⟩ := HV.out.fin (by omega)
                obtain ⟨g1, g2⟩ := readD_fin (drop_ne (by omega : 0 < V.size)) hall.out v f1 f2 false
                clear f1
                have hR := Lib.hid (hL.out.trans (g2 (fun h => by cases h)))
                have hW := Fl.floatOfInt_W v
                clear g1 g2
                go_wp2_with fail
                go_ret2
                exact ⟨_, by rw [hR.out]; rfl, by rw [hR.out]; exact fits_W (by first | omega | (simp; omega)), Below.refl _ _⟩
end Go.Proofs.YtajmdpndbfmdmaaDoor
namespace Go.Proofs.YtajmdpndbfmdmaaDoor
open Go Go.RowKit

theorem enc_dig : ∀ d : Nat, d < 10 → Utf8.encode (48 + (d : Int)) = ⟨#[UInt8.ofNat (48 + d)]⟩ := by decide +kernel

theorem tens_pos (n : Nat) (w : World) (hn : n < 9223372036854775808) :
    Calls Tryd.prog 101 #[.int .i64 n] w fun e w' => e = .returned (.string (strOf (Lib.decDigits n))) ∧ w = w' := by
  obtain ⟨L, hL⟩ : ∃ L, L = Lib.decDigits n := ⟨_, rfl⟩
  rw [← hL]
  have hlen : L.length ≤ 20 := by rw [hL, Lib.decDigits_length]; exact Lib.nDigits_le20 n (by omega)
  have hL' := Lib.hid hL
  clear hL
  go_enter Tryd.func101, Tryd.ntmps101
  go_wp2_with fail
  go_loop [0, 3] (fun x o => ∃ (m : Nat) (X : ByteArray), m < 9223372036854775808 ∧ x = .int .i64 m ∧ o = .string X ∧ X.size ≤ 20 ∧ Hid (Lib.decDigits m ++ X.data.toList = L)) (fun x _ => (intOf x).toNat)
  case atStart => exact ⟨n, ByteArray.empty, hn, rfl, rfl, by decide, by rw [hL'.out]; exact Lib.hid (List.append_nil _)⟩
  case round =>
    obtain ⟨m, X, hm, rfl, rfl, hX, H⟩ := hrel
    by_cases c : (10 : Int) ≤ m
    · have he := enc_dig (m % 10) (Nat.mod_lt _ (by decide))
      rw [Int.natCast_emod] at he
      have he' : Utf8.encode (48 + (m : Int) % 10) = ⟨#[UInt8.ofNat (48 + m % 10)]⟩ := he
      have hsz : (⟨#[UInt8.ofNat (48 + m % 10)]⟩ : ByteArray).size = 1 := rfl
      clear he
      have H2 : Lib.decDigits (m / 10) ++ ((⟨#[UInt8.ofNat (48 + m % 10)]⟩ : ByteArray) ++ X).data.toList = L := by
        rw [← H.out, append_list, Lib.decDigits.eq_1 m, dif_neg (by omega), List.append_assoc]
      have hs2 : ((⟨#[UInt8.ofNat (48 + m % 10)]⟩ : ByteArray) ++ X).size ≤ 20 := by
        have := congrArg List.length H2
        rw [List.length_append, size_list] at this
        omega
      have H2' := Lib.hid (And.intro H2 hs2)
      clear H2 hs2
      obtain ⟨Y, hY⟩ : ∃ Y : ByteArray, Y = ⟨#[UInt8.ofNat (48 + m % 10)]⟩ := ⟨_, rfl⟩
      rw [← hY] at he' H2' hsz
      clear hY
      go_wp2_with fail
      refine ⟨⟨m / 10, _, by omega, by simp, rfl, H2'.out.2, H2'.out.1⟩, by simp [intOf]; omega⟩
    · have he := enc_dig m (by omega)
      obtain ⟨Y, hY⟩ : ∃ Y : ByteArray, Y = ⟨#[UInt8.ofNat (48 + m)]⟩ := ⟨_, rfl⟩
      have hsz : (⟨#[UInt8.ofNat (48 + m)]⟩ : ByteArray).size = 1 := rfl
      have H2 : ((⟨#[UInt8.ofNat (48 + m)]⟩ : ByteArray) ++ X).data.toList = L := by
        rw [← H.out, append_list, Lib.decDigits.eq_1 m, dif_pos (by omega)]
      rw [← hY] at he H2 hsz
      have H2' := Lib.hid (strOf_inj H2)
      clear H2 hY
      go_wp2_with fail
      go_ret
      exact ⟨by rw [← H2'.out]; rfl, rfl⟩
end Go.Proofs.YtajmdpndbfmdmaaDoor
namespace Go.Proofs.YtajmdpndbfmdmaaDoor
open Go Go.RowKit

theorem tens_any (n : Int) (w : World) (h0 : -9223372036854775808 < n) (h1 : n ≤ 9223372036854775807) :
    Calls Tryd.prog 101 #[.int .i64 n] w fun e w' => e = .returned (.string (strOf (Lib.itoa n))) ∧ w = w' := by
  by_cases c : n < 0
  · obtain ⟨u, rfl⟩ : ∃ u : Nat, n = -(u : Int) := ⟨n.natAbs, by omega⟩
    rw [Lib.itoa_neg u (by omega)]
    have hlen : (Lib.decDigits u).length ≤ 20 := by rw [Lib.decDigits_length]; exact Lib.nDigits_le20 u (by omega)
    by_cases c10 : 10 ≤ u
    · have q1 := fun w' => tens_pos (u / 10) w' (by omega)
      have q2 := fun w' => tens_pos (u % 10) w' (by omega)
      rw [show ((u / 10 : Nat) : Int) = (u : Int) / 10 from by omega] at q1
      rw [show ((u % 10 : Nat) : Int) = (u : Int) % 10 from by omega] at q2
      have hd : Lib.decDigits u = Lib.decDigits (u / 10) ++ Lib.decDigits (u % 10) := by
        rw [Lib.decDigits.eq_1 u, dif_neg (by omega), Lib.decDigits_one (Nat.mod_lt _ (by decide))]
      have hl1 : (strOf (Lib.decDigits (u / 10))).size ≤ 20 := by
        rw [← size_list, strOf_list]; have := congrArg List.length hd; rw [List.length_append] at this; omega
      have hl2 : (strOf (Lib.decDigits (u % 10))).size ≤ 20 := by
        rw [← size_list, strOf_list]; have := congrArg List.length hd; rw [List.length_append] at this; omega
      have hfin := Lib.hid (show (⟨#[45]⟩ : ByteArray) ++ strOf (Lib.decDigits (u / 10)) ++ strOf (Lib.decDigits (u % 10)) = strOf (45 :: Lib.decDigits u) from strOf_inj (by rw [append_list, append_list, strOf_list, strOf_list, hd]; rfl))
      generalize strOf (Lib.decDigits (u / 10)) = A at q1 hl1 hfin
      generalize strOf (Lib.decDigits (u % 10)) = B at q2 hl2 hfin
      have q1 := Lib.hid q1
      have q2 := Lib.hid q2
      clear hd
      go_enter Tryd.func101, Tryd.ntmps101
      go_wp2_with fail
      refine (q1.out _).mono ?_; rintro e w' ⟨rfl, rfl⟩
      go_wp2_with fail
      refine (q2.out _).mono ?_; rintro e w' ⟨rfl, rfl⟩
      go_wp2_with fail
      go_ret
      exact ⟨by rw [← hfin.out]; rfl, rfl⟩
    · have q1 := Lib.hid (fun w' => tens_pos u w' (by omega))
      have hl1 : (strOf (Lib.decDigits u)).size ≤ 20 := by rw [← size_list, strOf_list]; exact hlen
      have hfin := Lib.hid (show (⟨#[45]⟩ : ByteArray) ++ strOf (Lib.decDigits u) = strOf (45 :: Lib.decDigits u) from strOf_inj (by rw [append_list, strOf_list]; rfl))
      generalize strOf (Lib.decDigits u) = A at q1 hl1 hfin
      go_enter Tryd.func101, Tryd.ntmps101
      go_wp2_with fail
      refine (q1.out _).mono ?_; rintro e w' ⟨rfl, rfl⟩
      go_wp2_with fail
      go_ret
      exact ⟨by rw [← hfin.out]; rfl, rfl⟩
  · obtain ⟨u, rfl⟩ := Int.eq_ofNat_of_zero_le (a := n) (by omega)
    rw [Lib.itoa_nonneg]
    exact tens_pos u w (by omega)
def textS (x : Nat) : ByteArray := if Fl.isN x then ⟨#[78, 97, 78]⟩ else match Fl.num? x with | some n => strOf (Lib.itoa n) | none => ⟨#[]⟩

theorem text_any (x : Nat) (w : World) (hx : x < 18446744073709551616) (htab : Lib.TabIs Tryd.prog w "internal/strconv.uint64pow10" .u64 Lib.pow10Tab) :
    Calls Tryd.prog 42 #[.float .f64 x] w fun e w' => e = .returned (.string (textS x)) ∧ Below w.heap.size w w' := by
  have hM := Lib.hid (fun w' => may_any x w' hx)
  have h1 := Fl.ord_neq hx hx
  rw [Fl.feq_self] at h1
  cases Fl.make_of x with
  | nan hN h2 h3 =>
    rw [hN] at h1
    have hs := Lib.hid (show textS x = ⟨#[78, 97, 78]⟩ from by unfold textS; rw [if_pos hN])
    clear hN h2 h3 hx htab
    go_enter Tryd.func42, Tryd.ntmps42
    go_wp2
    go_ret
    exact ⟨by rw [hs.out]; rfl, Below.refl _ _⟩
  | bad hN h2 h3 =>
    rw [hN] at h1
    rw [h3] at hM
    have hs := Lib.hid (show textS x = ⟨#[]⟩ from by unfold textS; rw [hN, h2]; rfl)
    clear hN h2 h3 hx htab
    go_enter Tryd.func42, Tryd.ntmps42
    go_wp2_with fail
    refine (hM.out _).mono ?_; rintro e w' ⟨rfl, rfl⟩
    go_wp2
    go_ret
    exact ⟨by rw [hs.out]; rfl, Below.refl _ _⟩
  | int n hn e h2 h3 h4 =>
    rw [h4] at h1
    rw [h3] at hM
    have hc := conv_int64 hn
    have hs := Lib.hid (show textS x = strOf (Lib.itoa n) from by unfold textS; rw [h4, h2]; rfl)
    have q := Lib.hid (Tryd.strconv_FormatInt_10 n (by omega) (by omega) w htab)
    subst e
    clear h2 h3 h4 hx htab
    go_enter Tryd.func42, Tryd.ntmps42
    go_wp2_with fail
    refine (hM.out _).mono ?_; rintro e w' ⟨rfl, rfl⟩
    go_wp2_with fail
    refine q.out.mono ?_; rintro e w' ⟨rfl, k, os, rfl⟩
    go_wp2
    go_ret
    exact ⟨by rw [hs.out]; rfl, Lib.below_grow _ _ (Nat.le_refl _) _ _⟩
end Go.Proofs.YtajmdpndbfmdmaaDoor
namespace Go.Proofs.YtajmdpndbfmdmaaDoor
open Go Go.RowKit

theorem refText_any (x : Nat) (w : World) (hx : x < 18446744073709551616) :
    Calls Tryd.prog 43 #[.float .f64 x] w fun e w' => e = .returned (.string (textS x)) ∧ w = w' := by
  have hM := Lib.hid (fun w' => whole_any x w' hx)
  have h1 := Fl.ord_neq hx hx
  rw [Fl.feq_self] at h1
  cases Fl.make_of x with
  | nan hN h2 h3 =>
    rw [hN] at h1
    have hs := Lib.hid (show textS x = ⟨#[78, 97, 78]⟩ from by unfold textS; rw [if_pos hN])
    clear hN h2 h3 hx hM
    go_enter Tryd.func43, Tryd.ntmps43
    go_wp2
    go_ret
    exact ⟨by rw [hs.out]; rfl, rfl⟩
  | bad hN h2 h3 =>
    rw [hN] at h1
    have hw : Fl.wholeS x = (0, false) := by unfold Fl.wholeS; rw [h2]; rfl
    rw [hw] at hM
    have hs := Lib.hid (show textS x = ⟨#[]⟩ from by unfold textS; rw [hN, h2]; rfl)
    clear hN h2 h3 hx hw
    go_enter Tryd.func43, Tryd.ntmps43
    go_wp2_with fail
    refine (hM.out _).mono ?_; rintro e w' ⟨rfl, rfl⟩
    go_wp2
    go_ret
    exact ⟨by rw [hs.out]; rfl, rfl⟩
  | int n hn e h2 h3 h4 =>
    rw [h4] at h1
    have hw : Fl.wholeS x = (n, true) := by unfold Fl.wholeS; rw [h2]; rfl
    rw [hw] at hM
    have hs := Lib.hid (show textS x = strOf (Lib.itoa n) from by unfold textS; rw [h4, h2]; rfl)
    have q := Lib.hid (fun w' => tens_any n w' (by omega) (by omega))
    subst e
    clear h2 h3 h4 hx hw
    go_enter Tryd.func43, Tryd.ntmps43
    go_wp2_with fail
    refine (hM.out _).mono ?_; rintro e w' ⟨rfl, rfl⟩
    go_wp2_with fail
    refine (q.out _).mono ?_; rintro e w' ⟨rfl, rfl⟩
    go_wp2
    go_ret
    exact ⟨by rw [hs.out]; rfl, rfl⟩
theorem alike_fits {z u : Nat} {v : Option Int} (h : Fl.Fits z v) (g : Fl.Fits u v) : Alike z u := by
  refine ⟨Fl.Fits_lt h, Fl.Fits_lt g, ?_⟩
  cases v with
  | none => exact .inr ⟨h.1, g.1⟩
  | some n => exact .inl (h.1.trans g.1.symm)

theorem pow_global : Tryd.prog.globalNamed "internal/strconv.uint64pow10" = some 2 := by kernel_rfl
theorem tab_size {w : World} (h : Lib.TabIs Tryd.prog w "internal/strconv.uint64pow10" .u64 Lib.pow10Tab) : 2 < w.heap.size := by
  have hc := h.cell pow_global 0 (by decide)
  rcases Nat.lt_or_ge 2 w.heap.size with h' | h'
  · exact h'
  · simp [World.cell?, Array.getElem?_eq_none h'] at hc
theorem tab_below {B : Nat} {w w' : World} (h : Lib.TabIs Tryd.prog w "internal/strconv.uint64pow10" .u64 Lib.pow10Tab) (hb : Below B w w') (h2 : 2 < B) :
    Lib.TabIs Tryd.prog w' "internal/strconv.uint64pow10" .u64 Lib.pow10Tab := by
  unfold Lib.TabIs at h ⊢
  exact var?_below hb pow_global h2 h

theorem numTexts_walk (x : Nat) (s : ByteArray) (w0 : (Lit.float .f64 x).wf = true) (_w1 : s.size ≤ maxLen) (w : World) (htab : Lib.TabIs Tryd.prog w "internal/strconv.uint64pow10" .u64 Lib.pow10Tab) :
    Calls Tryd.prog 7 #[.float .f64 x, .string s] w fun e w' => e = .returned (.bool true) ∧ Below w.heap.size w w' := by
  have hx := float_lt w0
  clear w0
  by_cases c : 5000 < s.size
  · have d : 5000 < (s.size : Int) := by omega
    clear htab
    go_enter Tryd.func7, Tryd.ntmps7
    go_wp2
    go_ret
    exact ⟨rfl, Below.refl _ _⟩
  · have d : ¬ 5000 < (s.size : Int) := by omega
    have q1 := Lib.hid (fun w' => read_any s w' (by omega))
    have q2 := Lib.hid (fun w' => refRead_any s w' (by omega))
    have q3 := Lib.hid (fun w' => text_any x w' hx)
    have q4 := Lib.hid (fun w' => refText_any x w' hx)
    obtain ⟨p, hp⟩ : ∃ p, p = readL (trimV s).data.toList := ⟨_, rfl⟩
    rw [← hp] at q1 q2
    generalize textS x = T at q3 q4
    have ht := Lib.hid htab
    clear htab hp c
    go_enter Tryd.func7, Tryd.ntmps7
    go_wp2_with fail
    refine (q1.out _).mono ?_; rintro e w1 ⟨z, rfl, hz, b1⟩
    have B1 := Lib.hid b1
    have hz' := Lib.hid hz
    clear b1 hz
    go_wp2_with fail
    refine (q2.out _).mono ?_; rintro e w2 ⟨u, rfl, hu, b2⟩
    have B2 := Lib.hid (B1.out.trans (b2.mono B1.out.size))
    have hu' := Lib.hid hu
    clear b2 hu
    have hA := Lib.hid (fun w' => told_true z u p.2 w' (alike_fits hz'.out hu'.out))
    go_wp2_with fail
    refine (hA.out _).mono ?_; rintro e w' ⟨rfl, rfl⟩
    go_wp2_with fail
    refine (q3.out _ (tab_below ht.out B2.out (tab_size ht.out))).mono ?_; rintro e w3 ⟨rfl, b3⟩
    have B3 := Lib.hid (B2.out.trans (b3.mono B2.out.size))
    clear b3
    go_wp2_with fail
    refine (q4.out _).mono ?_; rintro e w' ⟨rfl, rfl⟩
    go_wp2
    go_ret
    exact ⟨by simp, B3.out⟩
end Go.Proofs.YtajmdpndbfmdmaaDoor
