/-
  str.worth, escape, and the document's sixteen return what the plain theory says. Conditions: none.
-/
import Derived.Test.YtajmdpndbfmdmaaDoorStrC
namespace Go.Proofs.YtajmdpndbfmdmaaDoor
open Go Go.RowKit

theorem worth_some (c : UInt8) (x : Nat) (w : World) (h : Sp.hexv c = some x) :
    Calls Tryd.prog 148 #[.int .u8 c.toNat] w fun e w' => e = .returned (.tuple #[.int .u8 x, .bool true]) ∧ w = w' := by
  have hlt := c.toNat_lt
  unfold Sp.hexv at h
  by_cases h1 : 48 ≤ c.toNat ∧ c.toNat ≤ 57
  · rw [if_pos h1] at h
    injection h with h
    have e : (c.toNat : Int) - 48 = x := by omega
    have a1 : 48 ≤ (c.toNat : Int) := by omega
    have a2 : (c.toNat : Int) ≤ 57 := by omega
    clear h h1
    go_enter Tryd.func148, Tryd.ntmps148
    go_wp2
    go_ret2
    exact ⟨rfl, rfl⟩
  · rw [if_neg h1] at h
    by_cases h2 : 97 ≤ c.toNat ∧ c.toNat ≤ 102
    · rw [if_pos h2] at h
      injection h with h
      have e : (c.toNat : Int) - 97 + 10 = x := by omega
      have a1 : 48 ≤ (c.toNat : Int) := by omega
      have a2 : ¬ (c.toNat : Int) ≤ 57 := by omega
      have a3 : 97 ≤ (c.toNat : Int) := by omega
      have a4 : (c.toNat : Int) ≤ 102 := by omega
      clear h h1 h2
      go_enter Tryd.func148, Tryd.ntmps148
      go_wp2
      go_ret2
      exact ⟨rfl, rfl⟩
    · rw [if_neg h2] at h; cases h

theorem worth_none (c : UInt8) (w : World) (h : Sp.hexv c = none) :
    Calls Tryd.prog 148 #[.int .u8 c.toNat] w fun e w' => e = .returned (.tuple #[.int .u8 0, .bool false]) ∧ w = w' := by
  have hlt := c.toNat_lt
  unfold Sp.hexv at h
  by_cases h1 : 48 ≤ c.toNat ∧ c.toNat ≤ 57
  · rw [if_pos h1] at h; cases h
  · rw [if_neg h1] at h
    by_cases h2 : 97 ≤ c.toNat ∧ c.toNat ≤ 102
    · rw [if_pos h2] at h; cases h
    · clear h
      go_enter Tryd.func148, Tryd.ntmps148
      go_wp2
      all_goals first
        | (go_ret2; exact ⟨rfl, rfl⟩)
        | (exfalso; simp at *; omega)

theorem sixteen_some (c : UInt8) (x : Nat) (w : World) (h : Sp.hexv c = some x) :
    Calls Tryd.prog 168 #[.int .u8 c.toNat] w fun e w' => e = .returned (.int .i64 x) ∧ w = w' := by
  have hlt := c.toNat_lt
  unfold Sp.hexv at h
  by_cases h1 : 48 ≤ c.toNat ∧ c.toNat ≤ 57
  · rw [if_pos h1] at h
    injection h with h
    have e : (c.toNat : Int) - 48 = x := by omega
    have a1 : 48 ≤ (c.toNat : Int) := by omega
    have a2 : (c.toNat : Int) ≤ 57 := by omega
    clear h h1
    go_enter Tryd.func168, Tryd.ntmps168
    go_wp2
    go_ret
    exact ⟨rfl, rfl⟩
  · rw [if_neg h1] at h
    by_cases h2 : 97 ≤ c.toNat ∧ c.toNat ≤ 102
    · rw [if_pos h2] at h
      injection h with h
      have e : (c.toNat : Int) - 97 + 10 = x := by omega
      have a1 : 48 ≤ (c.toNat : Int) := by omega
      have a2 : ¬ (c.toNat : Int) ≤ 57 := by omega
      have a3 : 97 ≤ (c.toNat : Int) := by omega
      have a4 : (c.toNat : Int) ≤ 102 := by omega
      clear h h1 h2
      go_enter Tryd.func168, Tryd.ntmps168
      go_wp2
      go_ret
      exact ⟨rfl, rfl⟩
    · rw [if_neg h2] at h; cases h

theorem sixteen_none (c : UInt8) (w : World) (h : Sp.hexv c = none) :
    Calls Tryd.prog 168 #[.int .u8 c.toNat] w fun e w' => e = .returned (.int .i64 (-1)) ∧ w = w' := by
  have hlt := c.toNat_lt
  unfold Sp.hexv at h
  by_cases h1 : 48 ≤ c.toNat ∧ c.toNat ≤ 57
  · rw [if_pos h1] at h; cases h
  · rw [if_neg h1] at h
    by_cases h2 : 97 ≤ c.toNat ∧ c.toNat ≤ 102
    · rw [if_pos h2] at h; cases h
    · clear h
      go_enter Tryd.func168, Tryd.ntmps168
      go_wp2
      all_goals first
        | (go_ret; exact ⟨rfl, rfl⟩)
        | (exfalso; simp at *; omega)

def sixV (c : UInt8) : Int := match Sp.hexv c with | some x => (x : Int) | none => -1
theorem sixV_some {c : UInt8} {x : Nat} (h : Sp.hexv c = some x) : sixV c = x := by unfold sixV; rw [h]
theorem sixV_none {c : UInt8} (h : Sp.hexv c = none) : sixV c = -1 := by unfold sixV; rw [h]
theorem sixV_any (c : UInt8) (w : World) : Calls Tryd.prog 168 #[.int .u8 c.toNat] w fun e w' => e = .returned (.int .i64 (sixV c)) ∧ w' = w := by
  cases h : Sp.hexv c with
  | none => rw [sixV_none h]; exact (sixteen_none c w h).mono fun _ _ h => ⟨h.1, h.2.symm⟩
  | some x => rw [sixV_some h]; exact (sixteen_some c x w h).mono fun _ _ h => ⟨h.1, h.2.symm⟩

theorem hexv_lt (c : UInt8) (x : Nat) (h : Sp.hexv c = some x) : x < 16 := by
  unfold Sp.hexv at h
  split at h
  · injection h; omega
  · split at h
    · injection h; omega
    · cases h

theorem list_cons (s : ByteArray) (h : 0 < s.size) : ∃ r, s.data.toList = s[0]'h :: r := by
  have h' : 0 < s.data.toList.length := by rw [size_list]; exact h
  exact ⟨s.data.toList.drop 1, List.drop_eq_getElem_cons (i := 0) h'⟩
theorem list_cons3 (s : ByteArray) (h : 3 ≤ s.size) : ∃ r, s.data.toList = s[0]'(by omega) :: s[1]'(by omega) :: s[2]'(by omega) :: r := by
  have h' : 3 ≤ s.data.toList.length := by rw [size_list]; exact h
  refine ⟨s.data.toList.drop 3, ?_⟩
  rw [show s.data.toList = s.data.toList.drop 0 from rfl, List.drop_eq_getElem_cons (i := 0) (by omega), List.drop_eq_getElem_cons (i := 1) (by simp; omega), List.drop_eq_getElem_cons (i := 2) (by simp; omega)]
  rfl

abbrev escV (s : ByteArray) : Value := .tuple #[.int .u8 (Sp.escL s.data.toList).1.toNat, .int .i64 (Sp.escL s.data.toList).2]


theorem escape_x (s : ByteArray) (c a b : UInt8) (va vb : Int) (oa ob : Bool) (w : World) (h3 : 3 ≤ s.size) (h3' : 3 ≤ (s.size : Int)) (he : s.toList.isEmpty = false) (hc : s[0]'(by omega) = c) (ha : s[1]'(by omega) = a) (hb : s[2]'(by omega) = b)
    (d1 : ((c.toNat : Int) == 92) = false) (d2 : ((c.toNat : Int) == 34) = false) (d3 : ((c.toNat : Int) == 39) = false) (d4 : ((c.toNat : Int) == 110) = false) (d5 : ((c.toNat : Int) == 116) = false) (d6 : ((c.toNat : Int) == 114) = false) (d7 : ((c.toNat : Int) == 120) = true)
    (q1 : Hid (∀ w, Calls Tryd.prog 148 #[.int .u8 a.toNat] w fun e w' => e = .returned (.tuple #[.int .u8 va, .bool oa]) ∧ w = w'))
    (q2 : Hid (∀ w, Calls Tryd.prog 148 #[.int .u8 b.toNat] w fun e w' => e = .returned (.tuple #[.int .u8 vb, .bool ob]) ∧ w = w'))
    (Q : Value) (hQ : Hid (oa = false ∨ ob = false → Q = .tuple #[.int .u8 0, .int .i64 0])) (hP : Hid (oa = true ∧ ob = true → Q = .tuple #[.int .u8 (bits .or .u8 (va * 16 % 256) vb), .int .i64 3])) :
    Calls Tryd.prog 113 #[.string s] w fun e w' => e = .returned Q ∧ w = w' := by
  go_enter Tryd.func113, Tryd.ntmps113
  go_wp2_with fail
  refine (q1.out _).mono ?_
  rintro e w2 ⟨rfl, rfl⟩
  go_wp2_with fail
  refine (q2.out _).mono ?_
  rintro e w2 ⟨rfl, rfl⟩
  cases oa
  · go_wp2
    go_ret2
    exact ⟨by rw [hQ.out (by simp)]; rfl, rfl⟩
  · cases ob
    · go_wp2
      go_ret2
      exact ⟨by rw [hQ.out (by simp)]; rfl, rfl⟩
    · go_wp2
      go_ret2
      exact ⟨by rw [hP.out (by simp)]; rfl, rfl⟩

theorem shl_or : ∀ x, x < 16 → ∀ y, y < 16 → bits .or .u8 (((x : Nat) : Int) * 16 % 256) ((y : Nat) : Int) = (UInt8.ofNat (16 * x + y)).toNat := by decide

set_option maxRecDepth 100000 in
theorem escape_any (s : ByteArray) (w : World) :
    Calls Tryd.prog 113 #[.string s] w fun e w' => e = .returned (escV s) ∧ w = w' := by
  by_cases c0 : s.size = 0
  · obtain rfl := empty_of c0
    clear c0
    go_enter Tryd.func113, Tryd.ntmps113
    go_wp2
    go_ret2
    exact ⟨rfl, rfl⟩
  · have he := isEmpty_of c0
    have hp : 0 < s.size := by omega
    obtain ⟨r, hr⟩ := list_cons s hp
    obtain ⟨c, hc⟩ : ∃ c, c = s[0]'hp := ⟨_, rfl⟩
    rw [← hc] at hr
    have hc' := hc.symm
    have hr' := Lib.hid hr
    have hlt := c.toNat_lt
    clear hc hr c0
    obtain ⟨V, hV⟩ : ∃ V, V = escV s := ⟨_, rfl⟩
    rw [← hV]
    unfold escV at hV
    rw [hr'.out, Sp.escL] at hV
    by_cases h1 : c.toNat = 92 ∨ c.toNat = 34 ∨ c.toNat = 39
    · rw [if_pos h1] at hV
      have hV' := Lib.hid hV
      clear hV
      by_cases b1 : c.toNat = 92
      · have d1 : ((c.toNat : Int) == 92) = true := by simp; omega
        clear h1 b1
        go_enter Tryd.func113, Tryd.ntmps113
        go_wp2
        go_ret2
        exact ⟨by rw [hV'.out]; rfl, rfl⟩
      · have d1 : ((c.toNat : Int) == 92) = false := by simp; omega
        by_cases b2 : c.toNat = 34
        · have d2 : ((c.toNat : Int) == 34) = true := by simp; omega
          clear h1 b1 b2
          go_enter Tryd.func113, Tryd.ntmps113
          go_wp2
          go_ret2
          exact ⟨by rw [hV'.out]; rfl, rfl⟩
        · have d2 : ((c.toNat : Int) == 34) = false := by simp; omega
          have d3 : ((c.toNat : Int) == 39) = true := by simp; omega
          clear h1 b1 b2
          go_enter Tryd.func113, Tryd.ntmps113
          go_wp2
          go_ret2
          exact ⟨by rw [hV'.out]; rfl, rfl⟩
    · rw [if_neg h1] at hV
      have d1 : ((c.toNat : Int) == 92) = false := by simp; omega
      have d2 : ((c.toNat : Int) == 34) = false := by simp; omega
      have d3 : ((c.toNat : Int) == 39) = false := by simp; omega
      clear h1
      by_cases h2 : c.toNat = 110
      · rw [if_pos h2] at hV
        have hV' := Lib.hid hV
        have d4 : ((c.toNat : Int) == 110) = true := by simp; omega
        clear hV h2
        go_enter Tryd.func113, Tryd.ntmps113
        go_wp2
        go_ret2
        exact ⟨by rw [hV'.out]; rfl, rfl⟩
      · rw [if_neg h2] at hV
        have d4 : ((c.toNat : Int) == 110) = false := by simp; omega
        clear h2
        by_cases h3 : c.toNat = 116
        · rw [if_pos h3] at hV
          have hV' := Lib.hid hV
          have d5 : ((c.toNat : Int) == 116) = true := by simp; omega
          clear hV h3
          go_enter Tryd.func113, Tryd.ntmps113
          go_wp2
          go_ret2
          exact ⟨by rw [hV'.out]; rfl, rfl⟩
        · rw [if_neg h3] at hV
          have d5 : ((c.toNat : Int) == 116) = false := by simp; omega
          clear h3
          by_cases h4 : c.toNat = 114
          · rw [if_pos h4] at hV
            have hV' := Lib.hid hV
            have d6 : ((c.toNat : Int) == 114) = true := by simp; omega
            clear hV h4
            go_enter Tryd.func113, Tryd.ntmps113
            go_wp2
            go_ret2
            exact ⟨by rw [hV'.out]; rfl, rfl⟩
          · rw [if_neg h4] at hV
            have d6 : ((c.toNat : Int) == 114) = false := by simp; omega
            clear h4
            by_cases h5 : c.toNat = 120
            · rw [if_pos h5] at hV
              have d7 : ((c.toNat : Int) == 120) = true := by simp; omega
              clear h5
              by_cases h6 : 3 ≤ s.size
              · obtain ⟨r3, hr3⟩ := list_cons3 s h6
                obtain ⟨a, ha⟩ : ∃ a, a = s[1]'(by omega) := ⟨_, rfl⟩
                obtain ⟨b, hb⟩ : ∃ b, b = s[2]'(by omega) := ⟨_, rfl⟩
                rw [← ha, ← hb, hr'.out] at hr3
                injection hr3 with _ hr3
                rw [hr3, Sp.escX] at hV
                have ha' := ha.symm
                have hb' := hb.symm
                clear ha hb hr3
                have he' := he
                have h6' : 3 ≤ (s.size : Int) := by omega
                cases x1 : Sp.hexv a with
                | none =>
                  rw [x1] at hV
                  cases x2 : Sp.hexv b with
                  | none =>
                    exact escape_x s c a b 0 0 false false w h6 h6' he' hc' ha' hb' d1 d2 d3 d4 d5 d6 d7 (fun w => worth_none a w x1) (fun w => worth_none b w x2) V (fun _ => hV) (fun h => nomatch h.1)
                  | some y =>
                    exact escape_x s c a b 0 y false true w h6 h6' he' hc' ha' hb' d1 d2 d3 d4 d5 d6 d7 (fun w => worth_none a w x1) (fun w => worth_some b y w x2) V (fun _ => hV) (fun h => nomatch h.1)
                | some x =>
                  cases x2 : Sp.hexv b with
                  | none =>
                    rw [x1, x2] at hV
                    exact escape_x s c a b x 0 true false w h6 h6' he' hc' ha' hb' d1 d2 d3 d4 d5 d6 d7 (fun w => worth_some a x w x1) (fun w => worth_none b w x2) V (fun _ => hV) (fun h => nomatch h.2)
                  | some y =>
                    rw [x1, x2] at hV
                    exact escape_x s c a b x y true true w h6 h6' he' hc' ha' hb' d1 d2 d3 d4 d5 d6 d7 (fun w => worth_some a x w x1) (fun w => worth_some b y w x2) V (fun h => by rcases h with h | h <;> cases h) (fun _ => by rw [hV, shl_or x (hexv_lt a x x1) y (hexv_lt b y x2)]; rfl)
              · have hx : Sp.escX r = (0, 0) := by
                  have hsz : r.length + 1 = s.size := by rw [← size_list, hr'.out]; rfl
                  match r, hsz with
                  | [], _ => rfl
                  | [_], _ => rfl
                  | _ :: _ :: _, hsz => simp at hsz; omega
                rw [hx] at hV
                have hV' := Lib.hid hV
                have d8 : ¬ 3 ≤ (s.size : Int) := by omega
                clear hV h6 hx
                go_enter Tryd.func113, Tryd.ntmps113
                go_wp2
                go_ret2
                exact ⟨by rw [hV'.out]; rfl, rfl⟩
            · rw [if_neg h5] at hV
              have d7 : ((c.toNat : Int) == 120) = false := by simp; omega
              have hV' := Lib.hid hV
              clear hV h5
              go_enter Tryd.func113, Tryd.ntmps113
              go_wp2
              go_ret2
              exact ⟨by rw [hV'.out]; rfl, rfl⟩
end Go.Proofs.YtajmdpndbfmdmaaDoor
