/-
  The walk of bailifflaw03.LexOne. Conditions: the text is shorter than 2^47 bytes; the cell of internal/bytealg.MaxLen holds a whole number.
-/
import Derived.Test.YtajmdpndbfmdmaaDoorLexF
namespace Go.Proofs.YtajmdpndbfmdmaaDoor
open Go Go.RowKit
namespace Lx

theorem word_facts : ∀ s ∈ wordList, s.all nm = true ∧ (match s with | [] => False | c :: _ => isL c = true) := by
  intro s hs
  have : ∀ s ∈ wordList, (s.all nm && (match s with | [] => false | c :: _ => isL c)) = true := by decide +kernel
  have h := this s hs
  rw [Bool.and_eq_true] at h
  refine ⟨h.1, ?_⟩
  cases s with
  | nil => simp at h
  | cons c r => exact h.2
/-- A token that may be, alone, is one token. -/
theorem lex_one {t : Tk} (h : okB t = true) (h3 : t.1 ≠ 3) (h4 : t.1 ≠ 4) : Lexes t.2.1 ([(0, t.1, t.2.1, 0), (t.2.1.length, 0, [], 0)], 0, 0) := by
  have hs := step_form h (rest := []) (.inl rfl) 0 [] (by simp)
  have hw : wform t = t.2.1 := by unfold wform; rw [if_neg h3, if_neg h4]
  have hc : clean t = (t.1, t.2.1, 0) := by unfold clean; rw [if_neg h3]
  rw [List.append_nil, hw, hc, Nat.zero_add, List.nil_append] at hs
  exact Ends.go hs (Ends.stop rfl)
theorem nm_cases {c : UInt8} (h : nm c = true) (hd : dig c = false) : isL c = true := by unfold nm at h; rw [hd] at h; simpa using h
theorem lex_name {l : List UInt8} {c : UInt8} {r : List UInt8} (e : l = c :: r) (ha : l.all nm = true) (hd : dig c = false) (hl : l.length ≤ 4096) :
    Lexes l ([(0, if wrd l = true then 2 else 1, l, 0), (l.length, 0, [], 0)], 0, 0) ∧ sgn l = false := by
  have hc : isL c = true := nm_cases (List.all_eq_true.1 ha c (by rw [e]; simp)) hd
  constructor
  · have key : ∀ k : Nat, (k = 1 ∨ k = 2) → wrd l = decide (k = 2) → Lexes l ([(0, k, l, 0), (l.length, 0, [], 0)], 0, 0) := by
      intro k hk hw
      have hb : okB (k, l, 0) = true := by
        unfold okB
        simp only
        rw [if_neg (by omega), if_neg (by omega), if_neg (by omega), if_pos hk, ha, hw, zero_zero, decide_eq_true hl, e]
        simp [hc]
      exact lex_one hb (by simp only; omega) (by simp only; omega)
    by_cases hw : wrd l = true
    · rw [if_pos hw]; exact key 2 (.inr rfl) (by rw [hw]; rfl)
    · rw [if_neg hw]; exact key 1 (.inl rfl) (by rw [Bool.eq_false_iff.2 hw]; rfl)
  · rw [← Bool.not_eq_true]
    intro h
    have hf := (sgn_facts l (sgn_mem h)).2
    rw [e] at hf
    rw [hf.1] at hc; cases hc
theorem lex_sign {l : List UInt8} (h : sgn l = true) : Lexes l ([(0, 5, l, 0), (l.length, 0, [], 0)], 0, 0) := by
  have hb : okB (5, l, 0) = true := by
    unfold okB
    simp only
    rw [if_neg (by decide), if_neg (by decide), if_pos trivial, zero_zero, h]; rfl
  exact lex_one hb (by simp) (by simp)
theorem not_word {l : List UInt8} (h : ¬ (l ≠ [] ∧ l.length ≤ 4096 ∧ (∀ c r, l = c :: r → dig c = false) ∧ l.all nm = true)) : wrd l = false := by
  rw [← Bool.not_eq_true]
  intro hw
  apply h
  have hl := wrd_len l hw
  have hm : l ∈ wordList := by
    unfold wrd at hw
    rwa [List.contains_eq_mem, decide_eq_true_iff] at hw
  obtain ⟨h1, h2⟩ := word_facts l hm
  refine ⟨hl.2, by omega, ?_, h1⟩
  rintro c r rfl
  have hc : isL c = true := h2
  have : ∀ c : UInt8, isL c = true → dig c = false := all_bytes (by decide +kernel)
  exact this c hc
end Lx

set_option maxHeartbeats 16000000 in
set_option maxRecDepth 100000 in
theorem lexOne_walk (s : ByteArray) (m : Int) (w : World) (hs : s.size ≤ 140737488351232) (hm : w.cell? ⟨1, 0, none⟩ = some (.int .i64 m)) (hw : 1 < w.heap.size) :
    Calls Tryd.prog 10 #[.string s] w fun e w' => e = .returned (.bool true) ∧ Below w.heap.size w w' := by
  have qa := Lib.hid (lexAlive m w hm hw)
  have hm' := Lib.hid hm
  have hsl := Lib.hid (size_list s)
  clear hm
  by_cases h0 : s.size = 0
  · have g0 : ¬ 0 < (s.size : Int) := by omega
    have hne := Lib.hid (show ¬ (s.data.toList ≠ [] ∧ s.data.toList.length ≤ 4096 ∧ (∀ c r, s.data.toList = c :: r → dig c = false) ∧ s.data.toList.all Lx.nm = true) from fun h => h.1 (List.length_eq_zero_iff.1 (by rw [size_list]; exact h0)))
    go_enter Tryd.func10, Tryd.ntmps10
    go_wp2_with fail
    refine qa.out.mono ?_; rintro e w1 ⟨rfl, b1⟩
    have B1 := Lib.hid b1
    clear b1
    go_wp2_with fail
    go_loop [4, 5] (fun n i => n = .bool false ∧ i = .int .i64 0) (fun _ _ => 0)
    case atStart => exact ⟨rfl, rfl⟩
    case round =>
      obtain ⟨rfl, rfl⟩ := hrel
      have hWf := Lib.hid (Lx.not_word hne.out)
      have qw := Lib.hid (fun w' hm' => lexWord_any s m w' (by omega) hm')
      rw [hWf.out] at qw
      have qs := Lib.hid (fun w' hm' => lexSign_any s m w' (by omega) hm')
      cases hV : Lx.sgn s.data.toList with
      | false =>
        rw [hV] at qs
        clear hV
        go_wp2_with fail
        refine (qw.out _ ?_).mono ?_
        · exact (B1.out.cell (p := ⟨1, 0, none⟩) hw).trans hm'.out
        rintro e w' ⟨rfl, rfl⟩
        go_wp2_with fail
        refine (qs.out _ ?_).mono ?_
        · exact (B1.out.cell (p := ⟨1, 0, none⟩) hw).trans hm'.out
        rintro e w' ⟨rfl, rfl⟩
        go_wp2
        go_ret
        exact ⟨rfl, B1.out⟩
      | true =>
        rw [hV] at qs
        have hsl := Lx.sgn_len _ hV
        rw [size_list] at hsl
        have qo := Lib.hid (fun w' hm' hw' => only_true s 5 s 0 s.data.toList.length 0 m w' (by omega) hm' hw' (Lx.lex_sign hV))
        clear hV hsl
        go_wp2_with fail
        refine (qw.out _ ?_).mono ?_
        · exact (B1.out.cell (p := ⟨1, 0, none⟩) hw).trans hm'.out
        rintro e w' ⟨rfl, rfl⟩
        go_wp2_with fail
        refine (qs.out _ ?_).mono ?_
        · exact (B1.out.cell (p := ⟨1, 0, none⟩) hw).trans hm'.out
        rintro e w' ⟨rfl, rfl⟩
        go_wp2_with fail
        refine (qo.out _ ?_ ?_).mono ?_
        · exact (B1.out.cell (p := ⟨1, 0, none⟩) hw).trans hm'.out
        · exact Nat.lt_of_lt_of_le hw B1.out.size
        rintro e w2 ⟨rfl, b2⟩
        have B2 := Lib.hid (B1.out.trans (b2.mono B1.out.size))
        clear b2
        go_wp2
        go_ret
        exact ⟨rfl, B2.out⟩
  · have g0 : 0 < (s.size : Int) := by omega
    have g0' : 0 < s.size := by omega
    by_cases h1 : 4096 < s.size
    · have g1 : ¬ (s.size : Int) ≤ 4096 := by omega
      have hne := Lib.hid (show ¬ (s.data.toList ≠ [] ∧ s.data.toList.length ≤ 4096 ∧ (∀ c r, s.data.toList = c :: r → dig c = false) ∧ s.data.toList.all Lx.nm = true) from fun h => by have := h.2.1; rw [size_list] at this; omega)
      go_enter Tryd.func10, Tryd.ntmps10
      go_wp2_with fail
      refine qa.out.mono ?_; rintro e w1 ⟨rfl, b1⟩
      have B1 := Lib.hid b1
      clear b1
      go_wp2_with fail
      go_loop [4, 5] (fun n i => n = .bool false ∧ i = .int .i64 0) (fun _ _ => 0)
      case atStart => exact ⟨rfl, rfl⟩
      case round =>
        obtain ⟨rfl, rfl⟩ := hrel
        have hWf := Lib.hid (Lx.not_word hne.out)
        have qw := Lib.hid (fun w' hm' => lexWord_any s m w' (by omega) hm')
        rw [hWf.out] at qw
        have qs := Lib.hid (fun w' hm' => lexSign_any s m w' (by omega) hm')
        cases hV : Lx.sgn s.data.toList with
        | false =>
          rw [hV] at qs
          clear hV
          go_wp2_with fail
          refine (qw.out _ ?_).mono ?_
          · exact (B1.out.cell (p := ⟨1, 0, none⟩) hw).trans hm'.out
          rintro e w' ⟨rfl, rfl⟩
          go_wp2_with fail
          refine (qs.out _ ?_).mono ?_
          · exact (B1.out.cell (p := ⟨1, 0, none⟩) hw).trans hm'.out
          rintro e w' ⟨rfl, rfl⟩
          go_wp2
          go_ret
          exact ⟨rfl, B1.out⟩
        | true =>
          rw [hV] at qs
          have hsl := Lx.sgn_len _ hV
          rw [size_list] at hsl
          have qo := Lib.hid (fun w' hm' hw' => only_true s 5 s 0 s.data.toList.length 0 m w' (by omega) hm' hw' (Lx.lex_sign hV))
          clear hV hsl
          go_wp2_with fail
          refine (qw.out _ ?_).mono ?_
          · exact (B1.out.cell (p := ⟨1, 0, none⟩) hw).trans hm'.out
          rintro e w' ⟨rfl, rfl⟩
          go_wp2_with fail
          refine (qs.out _ ?_).mono ?_
          · exact (B1.out.cell (p := ⟨1, 0, none⟩) hw).trans hm'.out
          rintro e w' ⟨rfl, rfl⟩
          go_wp2_with fail
          refine (qo.out _ ?_ ?_).mono ?_
          · exact (B1.out.cell (p := ⟨1, 0, none⟩) hw).trans hm'.out
          · exact Nat.lt_of_lt_of_le hw B1.out.size
          rintro e w2 ⟨rfl, b2⟩
          have B2 := Lib.hid (B1.out.trans (b2.mono B1.out.size))
          clear b2
          go_wp2
          go_ret
          exact ⟨rfl, B2.out⟩
    · have g1 : (s.size : Int) ≤ 4096 := by omega
      obtain ⟨c, hc⟩ : ∃ c, s[0]'g0' = c := ⟨_, rfl⟩
      have hcons := head_cons s g0'
      rw [hc] at hcons
      by_cases h2 : dig c = true
      · have hne := Lib.hid (show ¬ (s.data.toList ≠ [] ∧ s.data.toList.length ≤ 4096 ∧ (∀ c r, s.data.toList = c :: r → dig c = false) ∧ s.data.toList.all Lx.nm = true) from fun h => by have := h.2.2.1 c _ hcons; rw [h2] at this; cases this)
        have g2 : decide ((c.toNat : Int) < 48) = false := by unfold dig at h2; simp at h2; simp; omega
        have g3 : decide (57 < (c.toNat : Int)) = false := by unfold dig at h2; simp at h2; simp; omega
        clear h2 hcons
        go_enter Tryd.func10, Tryd.ntmps10
        go_wp2_with fail
        refine qa.out.mono ?_; rintro e w1 ⟨rfl, b1⟩
        have B1 := Lib.hid b1
        clear b1
        go_wp2_with fail
        go_loop [4, 5] (fun n i => n = .bool false ∧ i = .int .i64 0) (fun _ _ => 0)
        case atStart => exact ⟨rfl, rfl⟩
        case round =>
          obtain ⟨rfl, rfl⟩ := hrel
          have hWf := Lib.hid (Lx.not_word hne.out)
          have qw := Lib.hid (fun w' hm' => lexWord_any s m w' (by omega) hm')
          rw [hWf.out] at qw
          have qs := Lib.hid (fun w' hm' => lexSign_any s m w' (by omega) hm')
          cases hV : Lx.sgn s.data.toList with
          | false =>
            rw [hV] at qs
            clear hV
            go_wp2_with fail
            refine (qw.out _ ?_).mono ?_
            · exact (B1.out.cell (p := ⟨1, 0, none⟩) hw).trans hm'.out
            rintro e w' ⟨rfl, rfl⟩
            go_wp2_with fail
            refine (qs.out _ ?_).mono ?_
            · exact (B1.out.cell (p := ⟨1, 0, none⟩) hw).trans hm'.out
            rintro e w' ⟨rfl, rfl⟩
            go_wp2
            go_ret
            exact ⟨rfl, B1.out⟩
          | true =>
            rw [hV] at qs
            have hsl := Lx.sgn_len _ hV
            rw [size_list] at hsl
            have qo := Lib.hid (fun w' hm' hw' => only_true s 5 s 0 s.data.toList.length 0 m w' (by omega) hm' hw' (Lx.lex_sign hV))
            clear hV hsl
            go_wp2_with fail
            refine (qw.out _ ?_).mono ?_
            · exact (B1.out.cell (p := ⟨1, 0, none⟩) hw).trans hm'.out
            rintro e w' ⟨rfl, rfl⟩
            go_wp2_with fail
            refine (qs.out _ ?_).mono ?_
            · exact (B1.out.cell (p := ⟨1, 0, none⟩) hw).trans hm'.out
            rintro e w' ⟨rfl, rfl⟩
            go_wp2_with fail
            refine (qo.out _ ?_ ?_).mono ?_
            · exact (B1.out.cell (p := ⟨1, 0, none⟩) hw).trans hm'.out
            · exact Nat.lt_of_lt_of_le hw B1.out.size
            rintro e w2 ⟨rfl, b2⟩
            have B2 := Lib.hid (B1.out.trans (b2.mono B1.out.size))
            clear b2
            go_wp2
            go_ret
            exact ⟨rfl, B2.out⟩
      · have h2' := Bool.eq_false_iff.2 h2
        have hcl := Lib.hid hcons
        have hname := Lib.hid (fun (ha : s.data.toList.all Lx.nm = true) => Lx.lex_name hcons ha h2' (by rw [size_list]; omega))
        have hd : c.toNat < 48 ∨ 57 < c.toNat := by unfold dig at h2'; simp at h2'; omega
        clear hcons h2 h2'
        rcases hd with hd | hd
        · have g2 : decide ((c.toNat : Int) < 48) = true := by simp; omega
          clear hd
          go_enter Tryd.func10, Tryd.ntmps10
          go_wp2_with fail
          refine qa.out.mono ?_; rintro e w1 ⟨rfl, b1⟩
          have B1 := Lib.hid b1
          clear b1
          go_wp2_with fail
          go_loop [4, 5] (fun n i => ∃ (k : Nat) (b : Bool), k ≤ s.size ∧ n = .bool b ∧ i = .int .i64 k ∧ Hid (if b = true then (s.data.toList.take k).all Lx.nm = true else s.data.toList.all Lx.nm = false)) (fun n i => match n with | .bool true => ((s.size : Int) - intOf i).toNat + 1 | _ => 0)
          case atStart => exact ⟨0, true, by omega, rfl, rfl, Lib.hid rfl⟩
          case round =>
            obtain ⟨k, b, hk, rfl, rfl, H⟩ := hrel
            cases b with
            | false =>
              have hall := Lib.hid (show s.data.toList.all Lx.nm = false from H.out)
              by_cases ck : (k : Int) < s.size
              · have hWf := Lib.hid (Lx.not_word (fun h => by rw [hall.out] at h; cases h.2.2.2))
                have qw := Lib.hid (fun w' hm' => lexWord_any s m w' (by omega) hm')
                rw [hWf.out] at qw
                have qs := Lib.hid (fun w' hm' => lexSign_any s m w' (by omega) hm')
                cases hV : Lx.sgn s.data.toList with
                | false =>
                  rw [hV] at qs
                  clear hV
                  go_wp2_with fail
                  refine (qw.out _ ?_).mono ?_
                  · exact (B1.out.cell (p := ⟨1, 0, none⟩) hw).trans hm'.out
                  rintro e w' ⟨rfl, rfl⟩
                  go_wp2_with fail
                  refine (qs.out _ ?_).mono ?_
                  · exact (B1.out.cell (p := ⟨1, 0, none⟩) hw).trans hm'.out
                  rintro e w' ⟨rfl, rfl⟩
                  go_wp2
                  go_ret
                  exact ⟨rfl, B1.out⟩
                | true =>
                  rw [hV] at qs
                  have hsl := Lx.sgn_len _ hV
                  rw [size_list] at hsl
                  have qo := Lib.hid (fun w' hm' hw' => only_true s 5 s 0 s.data.toList.length 0 m w' (by omega) hm' hw' (Lx.lex_sign hV))
                  clear hV hsl
                  go_wp2_with fail
                  refine (qw.out _ ?_).mono ?_
                  · exact (B1.out.cell (p := ⟨1, 0, none⟩) hw).trans hm'.out
                  rintro e w' ⟨rfl, rfl⟩
                  go_wp2_with fail
                  refine (qs.out _ ?_).mono ?_
                  · exact (B1.out.cell (p := ⟨1, 0, none⟩) hw).trans hm'.out
                  rintro e w' ⟨rfl, rfl⟩
                  go_wp2_with fail
                  refine (qo.out _ ?_ ?_).mono ?_
                  · exact (B1.out.cell (p := ⟨1, 0, none⟩) hw).trans hm'.out
                  · exact Nat.lt_of_lt_of_le hw B1.out.size
                  rintro e w2 ⟨rfl, b2⟩
                  have B2 := Lib.hid (B1.out.trans (b2.mono B1.out.size))
                  clear b2
                  go_wp2
                  go_ret
                  exact ⟨rfl, B2.out⟩
              · have hWf := Lib.hid (Lx.not_word (fun h => by rw [hall.out] at h; cases h.2.2.2))
                have qw := Lib.hid (fun w' hm' => lexWord_any s m w' (by omega) hm')
                rw [hWf.out] at qw
                have qs := Lib.hid (fun w' hm' => lexSign_any s m w' (by omega) hm')
                cases hV : Lx.sgn s.data.toList with
                | false =>
                  rw [hV] at qs
                  clear hV
                  go_wp2_with fail
                  refine (qw.out _ ?_).mono ?_
                  · exact (B1.out.cell (p := ⟨1, 0, none⟩) hw).trans hm'.out
                  rintro e w' ⟨rfl, rfl⟩
                  go_wp2_with fail
                  refine (qs.out _ ?_).mono ?_
                  · exact (B1.out.cell (p := ⟨1, 0, none⟩) hw).trans hm'.out
                  rintro e w' ⟨rfl, rfl⟩
                  go_wp2
                  go_ret
                  exact ⟨rfl, B1.out⟩
                | true =>
                  rw [hV] at qs
                  have hsl := Lx.sgn_len _ hV
                  rw [size_list] at hsl
                  have qo := Lib.hid (fun w' hm' hw' => only_true s 5 s 0 s.data.toList.length 0 m w' (by omega) hm' hw' (Lx.lex_sign hV))
                  clear hV hsl
                  go_wp2_with fail
                  refine (qw.out _ ?_).mono ?_
                  · exact (B1.out.cell (p := ⟨1, 0, none⟩) hw).trans hm'.out
                  rintro e w' ⟨rfl, rfl⟩
                  go_wp2_with fail
                  refine (qs.out _ ?_).mono ?_
                  · exact (B1.out.cell (p := ⟨1, 0, none⟩) hw).trans hm'.out
                  rintro e w' ⟨rfl, rfl⟩
                  go_wp2_with fail
                  refine (qo.out _ ?_ ?_).mono ?_
                  · exact (B1.out.cell (p := ⟨1, 0, none⟩) hw).trans hm'.out
                  · exact Nat.lt_of_lt_of_le hw B1.out.size
                  rintro e w2 ⟨rfl, b2⟩
                  have B2 := Lib.hid (B1.out.trans (b2.mono B1.out.size))
                  clear b2
                  go_wp2
                  go_ret
                  exact ⟨rfl, B2.out⟩
            | true =>
              have hall := Lib.hid (show (s.data.toList.take k).all Lx.nm = true from H.out)
              by_cases ck : (k : Int) < s.size
              · obtain ⟨u, hu⟩ : ∃ u, s[k]'(by omega) = u := ⟨_, rfl⟩
                have hlt := u.toNat_lt
                have hyes := Lib.hid (fun (e : Lx.nm u = true) => show (s.data.toList.take (k + 1)).all Lx.nm = true from by rw [take_snoc s k (by omega), hu, List.all_append, hall.out]; simp [e])
                have hno := Lib.hid (fun (e : Lx.nm u = false) => show s.data.toList.all Lx.nm = false from by rw [← List.take_append_drop k s.data.toList, List.all_append, drop_cons s k (by omega), hu, List.all_cons, e]; simp)
                have hcs : (0 ≤ u.toNat ∧ u.toNat ≤ 35) ∨ (36 ≤ u.toNat ∧ u.toNat ≤ 36) ∨ (37 ≤ u.toNat ∧ u.toNat ≤ 47) ∨ (48 ≤ u.toNat ∧ u.toNat ≤ 57) ∨ (58 ≤ u.toNat ∧ u.toNat ≤ 64) ∨ (65 ≤ u.toNat ∧ u.toNat ≤ 90) ∨ (91 ≤ u.toNat ∧ u.toNat ≤ 94) ∨ (95 ≤ u.toNat ∧ u.toNat ≤ 95) ∨ (96 ≤ u.toNat ∧ u.toNat ≤ 96) ∨ (97 ≤ u.toNat ∧ u.toNat ≤ 122) ∨ (123 ≤ u.toNat ∧ u.toNat ≤ 255) := by omega
                rcases hcs with h | h | h | h | h | h | h | h | h | h | h
                · have h1 : Lx.isL u = false := by unfold Lx.isL; first | (simp; done) | (simp; omega)
                  have h2 : dig u = false := by unfold dig; first | (simp; done) | (simp; omega)
                  have hn : Lx.nm u = false := by unfold Lx.nm; rw [h1, h2]; rfl
                  clear h1 h2
                  have hz := Lib.hid (hno.out hn)
                  have g97 : decide (97 ≤ (u.toNat : Int)) = false := by simp; omega
                  have g65 : decide (65 ≤ (u.toNat : Int)) = false := by simp; omega
                  have g48 : decide (48 ≤ (u.toNat : Int)) = false := by simp; omega
                  have l122 : decide ((u.toNat : Int) ≤ 122) = true := by simp; omega
                  have l90 : decide ((u.toNat : Int) ≤ 90) = true := by simp; omega
                  have l57 : decide ((u.toNat : Int) ≤ 57) = true := by simp; omega
                  have q95 : ((u.toNat : Int) == 95) = false := by simp; omega
                  have q36 : ((u.toNat : Int) == 36) = false := by simp; omega
                  clear h hn hyes hno
                  go_wp2_with fail
                  go_round
                  case rel => exact ⟨k + 1, false, by omega, rfl, by go_num, hz⟩
                  case measure => simp
                · have hn : Lx.nm u = true := by unfold Lx.nm Lx.isL dig; first | (simp; done) | (simp; omega)
                  have hz := Lib.hid (hyes.out hn)
                  have g97 : decide (97 ≤ (u.toNat : Int)) = false := by simp; omega
                  have g65 : decide (65 ≤ (u.toNat : Int)) = false := by simp; omega
                  have g48 : decide (48 ≤ (u.toNat : Int)) = false := by simp; omega
                  have l122 : decide ((u.toNat : Int) ≤ 122) = true := by simp; omega
                  have l90 : decide ((u.toNat : Int) ≤ 90) = true := by simp; omega
                  have l57 : decide ((u.toNat : Int) ≤ 57) = true := by simp; omega
                  have q95 : ((u.toNat : Int) == 95) = false := by simp; omega
                  have q36 : ((u.toNat : Int) == 36) = true := by simp; omega
                  clear h hn hyes hno
                  go_wp2_with fail
                  go_round
                  case rel => exact ⟨k + 1, true, by omega, rfl, by go_num, hz⟩
                  case measure => simp [intOf]; omega
                · have h1 : Lx.isL u = false := by unfold Lx.isL; first | (simp; done) | (simp; omega)
                  have h2 : dig u = false := by unfold dig; first | (simp; done) | (simp; omega)
                  have hn : Lx.nm u = false := by unfold Lx.nm; rw [h1, h2]; rfl
                  clear h1 h2
                  have hz := Lib.hid (hno.out hn)
                  have g97 : decide (97 ≤ (u.toNat : Int)) = false := by simp; omega
                  have g65 : decide (65 ≤ (u.toNat : Int)) = false := by simp; omega
                  have g48 : decide (48 ≤ (u.toNat : Int)) = false := by simp; omega
                  have l122 : decide ((u.toNat : Int) ≤ 122) = true := by simp; omega
                  have l90 : decide ((u.toNat : Int) ≤ 90) = true := by simp; omega
                  have l57 : decide ((u.toNat : Int) ≤ 57) = true := by simp; omega
                  have q95 : ((u.toNat : Int) == 95) = false := by simp; omega
                  have q36 : ((u.toNat : Int) == 36) = false := by simp; omega
                  clear h hn hyes hno
                  go_wp2_with fail
                  go_round
                  case rel => exact ⟨k + 1, false, by omega, rfl, by go_num, hz⟩
                  case measure => simp
                · have hn : Lx.nm u = true := by unfold Lx.nm Lx.isL dig; first | (simp; done) | (simp; omega)
                  have hz := Lib.hid (hyes.out hn)
                  have g97 : decide (97 ≤ (u.toNat : Int)) = false := by simp; omega
                  have g65 : decide (65 ≤ (u.toNat : Int)) = false := by simp; omega
                  have g48 : decide (48 ≤ (u.toNat : Int)) = true := by simp; omega
                  have l122 : decide ((u.toNat : Int) ≤ 122) = true := by simp; omega
                  have l90 : decide ((u.toNat : Int) ≤ 90) = true := by simp; omega
                  have l57 : decide ((u.toNat : Int) ≤ 57) = true := by simp; omega
                  have q95 : ((u.toNat : Int) == 95) = false := by simp; omega
                  have q36 : ((u.toNat : Int) == 36) = false := by simp; omega
                  clear h hn hyes hno
                  go_wp2_with fail
                  go_round
                  case rel => exact ⟨k + 1, true, by omega, rfl, by go_num, hz⟩
                  case measure => simp [intOf]; omega
                · have h1 : Lx.isL u = false := by unfold Lx.isL; first | (simp; done) | (simp; omega)
                  have h2 : dig u = false := by unfold dig; first | (simp; done) | (simp; omega)
                  have hn : Lx.nm u = false := by unfold Lx.nm; rw [h1, h2]; rfl
                  clear h1 h2
                  have hz := Lib.hid (hno.out hn)
                  have g97 : decide (97 ≤ (u.toNat : Int)) = false := by simp; omega
                  have g65 : decide (65 ≤ (u.toNat : Int)) = false := by simp; omega
                  have g48 : decide (48 ≤ (u.toNat : Int)) = true := by simp; omega
                  have l122 : decide ((u.toNat : Int) ≤ 122) = true := by simp; omega
                  have l90 : decide ((u.toNat : Int) ≤ 90) = true := by simp; omega
                  have l57 : decide ((u.toNat : Int) ≤ 57) = false := by simp; omega
                  have q95 : ((u.toNat : Int) == 95) = false := by simp; omega
                  have q36 : ((u.toNat : Int) == 36) = false := by simp; omega
                  clear h hn hyes hno
                  go_wp2_with fail
                  go_round
                  case rel => exact ⟨k + 1, false, by omega, rfl, by go_num, hz⟩
                  case measure => simp
                · have hn : Lx.nm u = true := by unfold Lx.nm Lx.isL dig; first | (simp; done) | (simp; omega)
                  have hz := Lib.hid (hyes.out hn)
                  have g97 : decide (97 ≤ (u.toNat : Int)) = false := by simp; omega
                  have g65 : decide (65 ≤ (u.toNat : Int)) = true := by simp; omega
                  have g48 : decide (48 ≤ (u.toNat : Int)) = true := by simp; omega
                  have l122 : decide ((u.toNat : Int) ≤ 122) = true := by simp; omega
                  have l90 : decide ((u.toNat : Int) ≤ 90) = true := by simp; omega
                  have l57 : decide ((u.toNat : Int) ≤ 57) = false := by simp; omega
                  have q95 : ((u.toNat : Int) == 95) = false := by simp; omega
                  have q36 : ((u.toNat : Int) == 36) = false := by simp; omega
                  clear h hn hyes hno
                  go_wp2_with fail
                  go_round
                  case rel => exact ⟨k + 1, true, by omega, rfl, by go_num, hz⟩
                  case measure => simp [intOf]; omega
                · have h1 : Lx.isL u = false := by unfold Lx.isL; first | (simp; done) | (simp; omega)
                  have h2 : dig u = false := by unfold dig; first | (simp; done) | (simp; omega)
                  have hn : Lx.nm u = false := by unfold Lx.nm; rw [h1, h2]; rfl
                  clear h1 h2
                  have hz := Lib.hid (hno.out hn)
                  have g97 : decide (97 ≤ (u.toNat : Int)) = false := by simp; omega
                  have g65 : decide (65 ≤ (u.toNat : Int)) = true := by simp; omega
                  have g48 : decide (48 ≤ (u.toNat : Int)) = true := by simp; omega
                  have l122 : decide ((u.toNat : Int) ≤ 122) = true := by simp; omega
                  have l90 : decide ((u.toNat : Int) ≤ 90) = false := by simp; omega
                  have l57 : decide ((u.toNat : Int) ≤ 57) = false := by simp; omega
                  have q95 : ((u.toNat : Int) == 95) = false := by simp; omega
                  have q36 : ((u.toNat : Int) == 36) = false := by simp; omega
                  clear h hn hyes hno
                  go_wp2_with fail
                  go_round
                  case rel => exact ⟨k + 1, false, by omega, rfl, by go_num, hz⟩
                  case measure => simp
                · have hn : Lx.nm u = true := by unfold Lx.nm Lx.isL dig; first | (simp; done) | (simp; omega)
                  have hz := Lib.hid (hyes.out hn)
                  have g97 : decide (97 ≤ (u.toNat : Int)) = false := by simp; omega
                  have g65 : decide (65 ≤ (u.toNat : Int)) = true := by simp; omega
                  have g48 : decide (48 ≤ (u.toNat : Int)) = true := by simp; omega
                  have l122 : decide ((u.toNat : Int) ≤ 122) = true := by simp; omega
                  have l90 : decide ((u.toNat : Int) ≤ 90) = false := by simp; omega
                  have l57 : decide ((u.toNat : Int) ≤ 57) = false := by simp; omega
                  have q95 : ((u.toNat : Int) == 95) = true := by simp; omega
                  have q36 : ((u.toNat : Int) == 36) = false := by simp; omega
                  clear h hn hyes hno
                  go_wp2_with fail
                  go_round
                  case rel => exact ⟨k + 1, true, by omega, rfl, by go_num, hz⟩
                  case measure => simp [intOf]; omega
                · have h1 : Lx.isL u = false := by unfold Lx.isL; first | (simp; done) | (simp; omega)
                  have h2 : dig u = false := by unfold dig; first | (simp; done) | (simp; omega)
                  have hn : Lx.nm u = false := by unfold Lx.nm; rw [h1, h2]; rfl
                  clear h1 h2
                  have hz := Lib.hid (hno.out hn)
                  have g97 : decide (97 ≤ (u.toNat : Int)) = false := by simp; omega
                  have g65 : decide (65 ≤ (u.toNat : Int)) = true := by simp; omega
                  have g48 : decide (48 ≤ (u.toNat : Int)) = true := by simp; omega
                  have l122 : decide ((u.toNat : Int) ≤ 122) = true := by simp; omega
                  have l90 : decide ((u.toNat : Int) ≤ 90) = false := by simp; omega
                  have l57 : decide ((u.toNat : Int) ≤ 57) = false := by simp; omega
                  have q95 : ((u.toNat : Int) == 95) = false := by simp; omega
                  have q36 : ((u.toNat : Int) == 36) = false := by simp; omega
                  clear h hn hyes hno
                  go_wp2_with fail
                  go_round
                  case rel => exact ⟨k + 1, false, by omega, rfl, by go_num, hz⟩
                  case measure => simp
                · have hn : Lx.nm u = true := by unfold Lx.nm Lx.isL dig; first | (simp; done) | (simp; omega)
                  have hz := Lib.hid (hyes.out hn)
                  have g97 : decide (97 ≤ (u.toNat : Int)) = true := by simp; omega
                  have g65 : decide (65 ≤ (u.toNat : Int)) = true := by simp; omega
                  have g48 : decide (48 ≤ (u.toNat : Int)) = true := by simp; omega
                  have l122 : decide ((u.toNat : Int) ≤ 122) = true := by simp; omega
                  have l90 : decide ((u.toNat : Int) ≤ 90) = false := by simp; omega
                  have l57 : decide ((u.toNat : Int) ≤ 57) = false := by simp; omega
                  have q95 : ((u.toNat : Int) == 95) = false := by simp; omega
                  have q36 : ((u.toNat : Int) == 36) = false := by simp; omega
                  clear h hn hyes hno
                  go_wp2_with fail
                  go_round
                  case rel => exact ⟨k + 1, true, by omega, rfl, by go_num, hz⟩
                  case measure => simp [intOf]; omega
                · have h1 : Lx.isL u = false := by unfold Lx.isL; first | (simp; done) | (simp; omega)
                  have h2 : dig u = false := by unfold dig; first | (simp; done) | (simp; omega)
                  have hn : Lx.nm u = false := by unfold Lx.nm; rw [h1, h2]; rfl
                  clear h1 h2
                  have hz := Lib.hid (hno.out hn)
                  have g97 : decide (97 ≤ (u.toNat : Int)) = true := by simp; omega
                  have g65 : decide (65 ≤ (u.toNat : Int)) = true := by simp; omega
                  have g48 : decide (48 ≤ (u.toNat : Int)) = true := by simp; omega
                  have l122 : decide ((u.toNat : Int) ≤ 122) = false := by simp; omega
                  have l90 : decide ((u.toNat : Int) ≤ 90) = false := by simp; omega
                  have l57 : decide ((u.toNat : Int) ≤ 57) = false := by simp; omega
                  have q95 : ((u.toNat : Int) == 95) = false := by simp; omega
                  have q36 : ((u.toNat : Int) == 36) = false := by simp; omega
                  clear h hn hyes hno
                  go_wp2_with fail
                  go_round
                  case rel => exact ⟨k + 1, false, by omega, rfl, by go_num, hz⟩
                  case measure => simp
              · have hz := hname.out (by have := hall.out; rwa [List.take_of_length_le (by rw [size_list]; omega)] at this)
                have qw := Lib.hid (fun w' hm' => lexWord_any s m w' (by omega) hm')
                have qs := Lib.hid (fun w' hm' => lexSign_any s m w' (by omega) hm')
                rw [hz.2] at qs
                cases hV : Lx.wrd s.data.toList with
                | false =>
                  have hlx := hz.1
                  rw [hV] at qw hlx
                  have qo := Lib.hid (fun w' hm' hw' => only_true s 1 s 0 s.data.toList.length 0 m w' (by omega) hm' hw' hlx)
                  clear hV hz hlx
                  go_wp2_with fail
                  refine (qw.out _ ?_).mono ?_
                  · exact (B1.out.cell (p := ⟨1, 0, none⟩) hw).trans hm'.out
                  rintro e w' ⟨rfl, rfl⟩
                  go_wp2_with fail
                  refine (qo.out _ ?_ ?_).mono ?_
                  · exact (B1.out.cell (p := ⟨1, 0, none⟩) hw).trans hm'.out
                  · exact Nat.lt_of_lt_of_le hw B1.out.size
                  rintro e w2 ⟨rfl, b2⟩
                  have B2 := Lib.hid (B1.out.trans (b2.mono B1.out.size))
                  clear b2
                  go_wp2_with fail
                  refine (qs.out _ ?_).mono ?_
                  · exact (B2.out.cell (p := ⟨1, 0, none⟩) hw).trans hm'.out
                  rintro e w' ⟨rfl, rfl⟩
                  go_wp2
                  go_ret
                  exact ⟨rfl, B2.out⟩
                | true =>
                  have hlx := hz.1
                  rw [hV] at qw hlx
                  have qo := Lib.hid (fun w' hm' hw' => only_true s 2 s 0 s.data.toList.length 0 m w' (by omega) hm' hw' hlx)
                  clear hV hz hlx
                  go_wp2_with fail
                  refine (qw.out _ ?_).mono ?_
                  · exact (B1.out.cell (p := ⟨1, 0, none⟩) hw).trans hm'.out
                  rintro e w' ⟨rfl, rfl⟩
                  go_wp2_with fail
                  refine (qo.out _ ?_ ?_).mono ?_
                  · exact (B1.out.cell (p := ⟨1, 0, none⟩) hw).trans hm'.out
                  · exact Nat.lt_of_lt_of_le hw B1.out.size
                  rintro e w2 ⟨rfl, b2⟩
                  have B2 := Lib.hid (B1.out.trans (b2.mono B1.out.size))
                  clear b2
                  go_wp2_with fail
                  refine (qs.out _ ?_).mono ?_
                  · exact (B2.out.cell (p := ⟨1, 0, none⟩) hw).trans hm'.out
                  rintro e w' ⟨rfl, rfl⟩
                  go_wp2
                  go_ret
                  exact ⟨rfl, B2.out⟩
        · have g2 : decide ((c.toNat : Int) < 48) = false := by simp; omega
          have g3 : decide (57 < (c.toNat : Int)) = true := by simp; omega
          clear hd
          go_enter Tryd.func10, Tryd.ntmps10
          go_wp2_with fail
          refine qa.out.mono ?_; rintro e w1 ⟨rfl, b1⟩
          have B1 := Lib.hid b1
          clear b1
          go_wp2_with fail
          go_loop [4, 5] (fun n i => ∃ (k : Nat) (b : Bool), k ≤ s.size ∧ n = .bool b ∧ i = .int .i64 k ∧ Hid (if b = true then (s.data.toList.take k).all Lx.nm = true else s.data.toList.all Lx.nm = false)) (fun n i => match n with | .bool true => ((s.size : Int) - intOf i).toNat + 1 | _ => 0)
          case atStart => exact ⟨0, true, by omega, rfl, rfl, Lib.hid rfl⟩
          case round =>
            obtain ⟨k, b, hk, rfl, rfl, H⟩ := hrel
            cases b with
            | false =>
              have hall := Lib.hid (show s.data.toList.all Lx.nm = false from H.out)
              by_cases ck : (k : Int) < s.size
              · have hWf := Lib.hid (Lx.not_word (fun h => by rw [hall.out] at h; cases h.2.2.2))
                have qw := Lib.hid (fun w' hm' => lexWord_any s m w' (by omega) hm')
                rw [hWf.out] at qw
                have qs := Lib.hid (fun w' hm' => lexSign_any s m w' (by omega) hm')
                cases hV : Lx.sgn s.data.toList with
                | false =>
                  rw [hV] at qs
                  clear hV
                  go_wp2_with fail
                  refine (qw.out _ ?_).mono ?_
                  · exact (B1.out.cell (p := ⟨1, 0, none⟩) hw).trans hm'.out
                  rintro e w' ⟨rfl, rfl⟩
                  go_wp2_with fail
                  refine (qs.out _ ?_).mono ?_
                  · exact (B1.out.cell (p := ⟨1, 0, none⟩) hw).trans hm'.out
                  rintro e w' ⟨rfl, rfl⟩
                  go_wp2
                  go_ret
                  exact ⟨rfl, B1.out⟩
                | true =>
                  rw [hV] at qs
                  have hsl := Lx.sgn_len _ hV
                  rw [size_list] at hsl
                  have qo := Lib.hid (fun w' hm' hw' => only_true s 5 s 0 s.data.toList.length 0 m w' (by omega) hm' hw' (Lx.lex_sign hV))
                  clear hV hsl
                  go_wp2_with fail
                  refine (qw.out _ ?_).mono ?_
                  · exact (B1.out.cell (p := ⟨1, 0, none⟩) hw).trans hm'.out
                  rintro e w' ⟨rfl, rfl⟩
                  go_wp2_with fail
                  refine (qs.out _ ?_).mono ?_
                  · exact (B1.out.cell (p := ⟨1, 0, none⟩) hw).trans hm'.out
                  rintro e w' ⟨rfl, rfl⟩
                  go_wp2_with fail
                  refine (qo.out _ ?_ ?_).mono ?_
                  · exact (B1.out.cell (p := ⟨1, 0, none⟩) hw).trans hm'.out
                  · exact Nat.lt_of_lt_of_le hw B1.out.size
                  rintro e w2 ⟨rfl, b2⟩
                  have B2 := Lib.hid (B1.out.trans (b2.mono B1.out.size))
                  clear b2
                  go_wp2
                  go_ret
                  exact ⟨rfl, B2.out⟩
              · have hWf := Lib.hid (Lx.not_word (fun h => by rw [hall.out] at h; cases h.2.2.2))
                have qw := Lib.hid (fun w' hm' => lexWord_any s m w' (by omega) hm')
                rw [hWf.out] at qw
                have qs := Lib.hid (fun w' hm' => lexSign_any s m w' (by omega) hm')
                cases hV : Lx.sgn s.data.toList with
                | false =>
                  rw [hV] at qs
                  clear hV
                  go_wp2_with fail
                  refine (qw.out _ ?_).mono ?_
                  · exact (B1.out.cell (p := ⟨1, 0, none⟩) hw).trans hm'.out
                  rintro e w' ⟨rfl, rfl⟩
                  go_wp2_with fail
                  refine (qs.out _ ?_).mono ?_
                  · exact (B1.out.cell (p := ⟨1, 0, none⟩) hw).trans hm'.out
                  rintro e w' ⟨rfl, rfl⟩
                  go_wp2
                  go_ret
                  exact ⟨rfl, B1.out⟩
                | true =>
                  rw [hV] at qs
                  have hsl := Lx.sgn_len _ hV
                  rw [size_list] at hsl
                  have qo := Lib.hid (fun w' hm' hw' => only_true s 5 s 0 s.data.toList.length 0 m w' (by omega) hm' hw' (Lx.lex_sign hV))
                  clear hV hsl
                  go_wp2_with fail
                  refine (qw.out _ ?_).mono ?_
                  · exact (B1.out.cell (p := ⟨1, 0, none⟩) hw).trans hm'.out
                  rintro e w' ⟨rfl, rfl⟩
                  go_wp2_with fail
                  refine (qs.out _ ?_).mono ?_
                  · exact (B1.out.cell (p := ⟨1, 0, none⟩) hw).trans hm'.out
                  rintro e w' ⟨rfl, rfl⟩
                  go_wp2_with fail
                  refine (qo.out _ ?_ ?_).mono ?_
                  · exact (B1.out.cell (p := ⟨1, 0, none⟩) hw).trans hm'.out
                  · exact Nat.lt_of_lt_of_le hw B1.out.size
                  rintro e w2 ⟨rfl, b2⟩
                  have B2 := Lib.hid (B1.out.trans (b2.mono B1.out.size))
                  clear b2
                  go_wp2
                  go_ret
                  exact ⟨rfl, B2.out⟩
            | true =>
              have hall := Lib.hid (show (s.data.toList.take k).all Lx.nm = true from H.out)
              by_cases ck : (k : Int) < s.size
              · obtain ⟨u, hu⟩ : ∃ u, s[k]'(by omega) = u := ⟨_, rfl⟩
                have hlt := u.toNat_lt
                have hyes := Lib.hid (fun (e : Lx.nm u = true) => show (s.data.toList.take (k + 1)).all Lx.nm = true from by rw [take_snoc s k (by omega), hu, List.all_append, hall.out]; simp [e])
                have hno := Lib.hid (fun (e : Lx.nm u = false) => show s.data.toList.all Lx.nm = false from by rw [← List.take_append_drop k s.data.toList, List.all_append, drop_cons s k (by omega), hu, List.all_cons, e]; simp)
                have hcs : (0 ≤ u.toNat ∧ u.toNat ≤ 35) ∨ (36 ≤ u.toNat ∧ u.toNat ≤ 36) ∨ (37 ≤ u.toNat ∧ u.toNat ≤ 47) ∨ (48 ≤ u.toNat ∧ u.toNat ≤ 57) ∨ (58 ≤ u.toNat ∧ u.toNat ≤ 64) ∨ (65 ≤ u.toNat ∧ u.toNat ≤ 90) ∨ (91 ≤ u.toNat ∧ u.toNat ≤ 94) ∨ (95 ≤ u.toNat ∧ u.toNat ≤ 95) ∨ (96 ≤ u.toNat ∧ u.toNat ≤ 96) ∨ (97 ≤ u.toNat ∧ u.toNat ≤ 122) ∨ (123 ≤ u.toNat ∧ u.toNat ≤ 255) := by omega
                rcases hcs with h | h | h | h | h | h | h | h | h | h | h
                · have h1 : Lx.isL u = false := by unfold Lx.isL; first | (simp; done) | (simp; omega)
                  have h2 : dig u = false := by unfold dig; first | (simp; done) | (simp; omega)
                  have hn : Lx.nm u = false := by unfold Lx.nm; rw [h1, h2]; rfl
                  clear h1 h2
                  have hz := Lib.hid (hno.out hn)
                  have g97 : decide (97 ≤ (u.toNat : Int)) = false := by simp; omega
                  have g65 : decide (65 ≤ (u.toNat : Int)) = false := by simp; omega
                  have g48 : decide (48 ≤ (u.toNat : Int)) = false := by simp; omega
                  have l122 : decide ((u.toNat : Int) ≤ 122) = true := by simp; omega
                  have l90 : decide ((u.toNat : Int) ≤ 90) = true := by simp; omega
                  have l57 : decide ((u.toNat : Int) ≤ 57) = true := by simp; omega
                  have q95 : ((u.toNat : Int) == 95) = false := by simp; omega
                  have q36 : ((u.toNat : Int) == 36) = false := by simp; omega
                  clear h hn hyes hno
                  go_wp2_with fail
                  go_round
                  case rel => exact ⟨k + 1, false, by omega, rfl, by go_num, hz⟩
                  case measure => simp
                · have hn : Lx.nm u = true := by unfold Lx.nm Lx.isL dig; first | (simp; done) | (simp; omega)
                  have hz := Lib.hid (hyes.out hn)
                  have g97 : decide (97 ≤ (u.toNat : Int)) = false := by simp; omega
                  have g65 : decide (65 ≤ (u.toNat : Int)) = false := by simp; omega
                  have g48 : decide (48 ≤ (u.toNat : Int)) = false := by simp; omega
                  have l122 : decide ((u.toNat : Int) ≤ 122) = true := by simp; omega
                  have l90 : decide ((u.toNat : Int) ≤ 90) = true := by simp; omega
                  have l57 : decide ((u.toNat : Int) ≤ 57) = true := by simp; omega
                  have q95 : ((u.toNat : Int) == 95) = false := by simp; omega
                  have q36 : ((u.toNat : Int) == 36) = true := by simp; omega
                  clear h hn hyes hno
                  go_wp2_with fail
                  go_round
                  case rel => exact ⟨k + 1, true, by omega, rfl, by go_num, hz⟩
                  case measure => simp [intOf]; omega
                · have h1 : Lx.isL u = false := by unfold Lx.isL; first | (simp; done) | (simp; omega)
                  have h2 : dig u = false := by unfold dig; first | (simp; done) | (simp; omega)
                  have hn : Lx.nm u = false := by unfold Lx.nm; rw [h1, h2]; rfl
                  clear h1 h2
                  have hz := Lib.hid (hno.out hn)
                  have g97 : decide (97 ≤ (u.toNat : Int)) = false := by simp; omega
                  have g65 : decide (65 ≤ (u.toNat : Int)) = false := by simp; omega
                  have g48 : decide (48 ≤ (u.toNat : Int)) = false := by simp; omega
                  have l122 : decide ((u.toNat : Int) ≤ 122) = true := by simp; omega
                  have l90 : decide ((u.toNat : Int) ≤ 90) = true := by simp; omega
                  have l57 : decide ((u.toNat : Int) ≤ 57) = true := by simp; omega
                  have q95 : ((u.toNat : Int) == 95) = false := by simp; omega
                  have q36 : ((u.toNat : Int) == 36) = false := by simp; omega
                  clear h hn hyes hno
                  go_wp2_with fail
                  go_round
                  case rel => exact ⟨k + 1, false, by omega, rfl, by go_num, hz⟩
                  case measure => simp
                · have hn : Lx.nm u = true := by unfold Lx.nm Lx.isL dig; first | (simp; done) | (simp; omega)
                  have hz := Lib.hid (hyes.out hn)
                  have g97 : decide (97 ≤ (u.toNat : Int)) = false := by simp; omega
                  have g65 : decide (65 ≤ (u.toNat : Int)) = false := by simp; omega
                  have g48 : decide (48 ≤ (u.toNat : Int)) = true := by simp; omega
                  have l122 : decide ((u.toNat : Int) ≤ 122) = true := by simp; omega
                  have l90 : decide ((u.toNat : Int) ≤ 90) = true := by simp; omega
                  have l57 : decide ((u.toNat : Int) ≤ 57) = true := by simp; omega
                  have q95 : ((u.toNat : Int) == 95) = false := by simp; omega
                  have q36 : ((u.toNat : Int) == 36) = false := by simp; omega
                  clear h hn hyes hno
                  go_wp2_with fail
                  go_round
                  case rel => exact ⟨k + 1, true, by omega, rfl, by go_num, hz⟩
                  case measure => simp [intOf]; omega
                · have h1 : Lx.isL u = false := by unfold Lx.isL; first | (simp; done) | (simp; omega)
                  have h2 : dig u = false := by unfold dig; first | (simp; done) | (simp; omega)
                  have hn : Lx.nm u = false := by unfold Lx.nm; rw [h1, h2]; rfl
                  clear h1 h2
                  have hz := Lib.hid (hno.out hn)
                  have g97 : decide (97 ≤ (u.toNat : Int)) = false := by simp; omega
                  have g65 : decide (65 ≤ (u.toNat : Int)) = false := by simp; omega
                  have g48 : decide (48 ≤ (u.toNat : Int)) = true := by simp; omega
                  have l122 : decide ((u.toNat : Int) ≤ 122) = true := by simp; omega
                  have l90 : decide ((u.toNat : Int) ≤ 90) = true := by simp; omega
                  have l57 : decide ((u.toNat : Int) ≤ 57) = false := by simp; omega
                  have q95 : ((u.toNat : Int) == 95) = false := by simp; omega
                  have q36 : ((u.toNat : Int) == 36) = false := by simp; omega
                  clear h hn hyes hno
                  go_wp2_with fail
                  go_round
                  case rel => exact ⟨k + 1, false, by omega, rfl, by go_num, hz⟩
                  case measure => simp
                · have hn : Lx.nm u = true := by unfold Lx.nm Lx.isL dig; first | (simp; done) | (simp; omega)
                  have hz := Lib.hid (hyes.out hn)
                  have g97 : decide (97 ≤ (u.toNat : Int)) = false := by simp; omega
                  have g65 : decide (65 ≤ (u.toNat : Int)) = true := by simp; omega
                  have g48 : decide (48 ≤ (u.toNat : Int)) = true := by simp; omega
                  have l122 : decide ((u.toNat : Int) ≤ 122) = true := by simp; omega
                  have l90 : decide ((u.toNat : Int) ≤ 90) = true := by simp; omega
                  have l57 : decide ((u.toNat : Int) ≤ 57) = false := by simp; omega
                  have q95 : ((u.toNat : Int) == 95) = false := by simp; omega
                  have q36 : ((u.toNat : Int) == 36) = false := by simp; omega
                  clear h hn hyes hno
                  go_wp2_with fail
                  go_round
                  case rel => exact ⟨k + 1, true, by omega, rfl, by go_num, hz⟩
                  case measure => simp [intOf]; omega
                · have h1 : Lx.isL u = false := by unfold Lx.isL; first | (simp; done) | (simp; omega)
                  have h2 : dig u = false := by unfold dig; first | (simp; done) | (simp; omega)
                  have hn : Lx.nm u = false := by unfold Lx.nm; rw [h1, h2]; rfl
                  clear h1 h2
                  have hz := Lib.hid (hno.out hn)
                  have g97 : decide (97 ≤ (u.toNat : Int)) = false := by simp; omega
                  have g65 : decide (65 ≤ (u.toNat : Int)) = true := by simp; omega
                  have g48 : decide (48 ≤ (u.toNat : Int)) = true := by simp; omega
                  have l122 : decide ((u.toNat : Int) ≤ 122) = true := by simp; omega
                  have l90 : decide ((u.toNat : Int) ≤ 90) = false := by simp; omega
                  have l57 : decide ((u.toNat : Int) ≤ 57) = false := by simp; omega
                  have q95 : ((u.toNat : Int) == 95) = false := by simp; omega
                  have q36 : ((u.toNat : Int) == 36) = false := by simp; omega
                  clear h hn hyes hno
                  go_wp2_with fail
                  go_round
                  case rel => exact ⟨k + 1, false, by omega, rfl, by go_num, hz⟩
                  case measure => simp
                · have hn : Lx.nm u = true := by unfold Lx.nm Lx.isL dig; first | (simp; done) | (simp; omega)
                  have hz := Lib.hid (hyes.out hn)
                  have g97 : decide (97 ≤ (u.toNat : Int)) = false := by simp; omega
                  have g65 : decide (65 ≤ (u.toNat : Int)) = true := by simp; omega
                  have g48 : decide (48 ≤ (u.toNat : Int)) = true := by simp; omega
                  have l122 : decide ((u.toNat : Int) ≤ 122) = true := by simp; omega
                  have l90 : decide ((u.toNat : Int) ≤ 90) = false := by simp; omega
                  have l57 : decide ((u.toNat : Int) ≤ 57) = false := by simp; omega
                  have q95 : ((u.toNat : Int) == 95) = true := by simp; omega
                  have q36 : ((u.toNat : Int) == 36) = false := by simp; omega
                  clear h hn hyes hno
                  go_wp2_with fail
                  go_round
                  case rel => exact ⟨k + 1, true, by omega, rfl, by go_num, hz⟩
                  case measure => simp [intOf]; omega
                · have h1 : Lx.isL u = false := by unfold Lx.isL; first | (simp; done) | (simp; omega)
                  have h2 : dig u = false := by unfold dig; first | (simp; done) | (simp; omega)
                  have hn : Lx.nm u = false := by unfold Lx.nm; rw [h1, h2]; rfl
                  clear h1 h2
                  have hz := Lib.hid (hno.out hn)
                  have g97 : decide (97 ≤ (u.toNat : Int)) = false := by simp; omega
                  have g65 : decide (65 ≤ (u.toNat : Int)) = true := by simp; omega
                  have g48 : decide (48 ≤ (u.toNat : Int)) = true := by simp; omega
                  have l122 : decide ((u.toNat : Int) ≤ 122) = true := by simp; omega
                  have l90 : decide ((u.toNat : Int) ≤ 90) = false := by simp; omega
                  have l57 : decide ((u.toNat : Int) ≤ 57) = false := by simp; omega
                  have q95 : ((u.toNat : Int) == 95) = false := by simp; omega
                  have q36 : ((u.toNat : Int) == 36) = false := by simp; omega
                  clear h hn hyes hno
                  go_wp2_with fail
                  go_round
                  case rel => exact ⟨k + 1, false, by omega, rfl, by go_num, hz⟩
                  case measure => simp
                · have hn : Lx.nm u = true := by unfold Lx.nm Lx.isL dig; first | (simp; done) | (simp; omega)
                  have hz := Lib.hid (hyes.out hn)
                  have g97 : decide (97 ≤ (u.toNat : Int)) = true := by simp; omega
                  have g65 : decide (65 ≤ (u.toNat : Int)) = true := by simp; omega
                  have g48 : decide (48 ≤ (u.toNat : Int)) = true := by simp; omega
                  have l122 : decide ((u.toNat : Int) ≤ 122) = true := by simp; omega
                  have l90 : decide ((u.toNat : Int) ≤ 90) = false := by simp; omega
                  have l57 : decide ((u.toNat : Int) ≤ 57) = false := by simp; omega
                  have q95 : ((u.toNat : Int) == 95) = false := by simp; omega
                  have q36 : ((u.toNat : Int) == 36) = false := by simp; omega
                  clear h hn hyes hno
                  go_wp2_with fail
                  go_round
                  case rel => exact ⟨k + 1, true, by omega, rfl, by go_num, hz⟩
                  case measure => simp [intOf]; omega
                · have h1 : Lx.isL u = false := by unfold Lx.isL; first | (simp; done) | (simp; omega)
                  have h2 : dig u = false := by unfold dig; first | (simp; done) | (simp; omega)
                  have hn : Lx.nm u = false := by unfold Lx.nm; rw [h1, h2]; rfl
                  clear h1 h2
                  have hz := Lib.hid (hno.out hn)
                  have g97 : decide (97 ≤ (u.toNat : Int)) = true := by simp; omega
                  have g65 : decide (65 ≤ (u.toNat : Int)) = true := by simp; omega
                  have g48 : decide (48 ≤ (u.toNat : Int)) = true := by simp; omega
                  have l122 : decide ((u.toNat : Int) ≤ 122) = false := by simp; omega
                  have l90 : decide ((u.toNat : Int) ≤ 90) = false := by simp; omega
                  have l57 : decide ((u.toNat : Int) ≤ 57) = false := by simp; omega
                  have q95 : ((u.toNat : Int) == 95) = false := by simp; omega
                  have q36 : ((u.toNat : Int) == 36) = false := by simp; omega
                  clear h hn hyes hno
                  go_wp2_with fail
                  go_round
                  case rel => exact ⟨k + 1, false, by omega, rfl, by go_num, hz⟩
                  case measure => simp
              · have hz := hname.out (by have := hall.out; rwa [List.take_of_length_le (by rw [size_list]; omega)] at this)
                have qw := Lib.hid (fun w' hm' => lexWord_any s m w' (by omega) hm')
                have qs := Lib.hid (fun w' hm' => lexSign_any s m w' (by omega) hm')
                rw [hz.2] at qs
                cases hV : Lx.wrd s.data.toList with
                | false =>
                  have hlx := hz.1
                  rw [hV] at qw hlx
                  have qo := Lib.hid (fun w' hm' hw' => only_true s 1 s 0 s.data.toList.length 0 m w' (by omega) hm' hw' hlx)
                  clear hV hz hlx
                  go_wp2_with fail
                  refine (qw.out _ ?_).mono ?_
                  · exact (B1.out.cell (p := ⟨1, 0, none⟩) hw).trans hm'.out
                  rintro e w' ⟨rfl, rfl⟩
                  go_wp2_with fail
                  refine (qo.out _ ?_ ?_).mono ?_
                  · exact (B1.out.cell (p := ⟨1, 0, none⟩) hw).trans hm'.out
                  · exact Nat.lt_of_lt_of_le hw B1.out.size
                  rintro e w2 ⟨rfl, b2⟩
                  have B2 := Lib.hid (B1.out.trans (b2.mono B1.out.size))
                  clear b2
                  go_wp2_with fail
                  refine (qs.out _ ?_).mono ?_
                  · exact (B2.out.cell (p := ⟨1, 0, none⟩) hw).trans hm'.out
                  rintro e w' ⟨rfl, rfl⟩
                  go_wp2
                  go_ret
                  exact ⟨rfl, B2.out⟩
                | true =>
                  have hlx := hz.1
                  rw [hV] at qw hlx
                  have qo := Lib.hid (fun w' hm' hw' => only_true s 2 s 0 s.data.toList.length 0 m w' (by omega) hm' hw' hlx)
                  clear hV hz hlx
                  go_wp2_with fail
                  refine (qw.out _ ?_).mono ?_
                  · exact (B1.out.cell (p := ⟨1, 0, none⟩) hw).trans hm'.out
                  rintro e w' ⟨rfl, rfl⟩
                  go_wp2_with fail
                  refine (qo.out _ ?_ ?_).mono ?_
                  · exact (B1.out.cell (p := ⟨1, 0, none⟩) hw).trans hm'.out
                  · exact Nat.lt_of_lt_of_le hw B1.out.size
                  rintro e w2 ⟨rfl, b2⟩
                  have B2 := Lib.hid (B1.out.trans (b2.mono B1.out.size))
                  clear b2
                  go_wp2_with fail
                  refine (qs.out _ ?_).mono ?_
                  · exact (B2.out.cell (p := ⟨1, 0, none⟩) hw).trans hm'.out
                  rintro e w' ⟨rfl, rfl⟩
                  go_wp2
                  go_ret
                  exact ⟨rfl, B2.out⟩
end Go.Proofs.YtajmdpndbfmdmaaDoor
