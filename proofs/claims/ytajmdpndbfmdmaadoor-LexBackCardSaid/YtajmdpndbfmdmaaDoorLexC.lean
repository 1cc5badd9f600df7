/-
  lex.token returns the token at the beginning of a text, or how far from there it is wrong. Conditions: texts of at most 70,000 bytes that are not empty; the cell of internal/bytealg.MaxLen holds a whole number.
-/
import Derived.Test.YtajmdpndbfmdmaaDoorLexB
import Derived.Test.YtajmdpndbfmdmaaDoorLexT
import Derived.Test.YtajmdpndbfmdmaaDoorValD
import Derived.Test.YtajmdpndbfmdmaaDoorLexI
namespace Go.Proofs.YtajmdpndbfmdmaaDoor
open Go Go.RowKit

/-- A token as a value: its kind, place, text, number. -/
def tkA (k : Int) (a : Int) (s : ByteArray) (x : Nat) : Value := .agg #[.int .u8 k, .int .i64 a, .string s, .float .f64 x]
def TokOut (R : Except Nat (Lx.Tk × Nat)) (w : World) (e : Ending) (w' : World) : Prop :=
  (match R with
  | .ok (t, n) => e = .returned (.tuple #[tkA t.1 0 (strOf t.2.1) t.2.2, .int .i64 n, .bool true])
  | .error p => ∃ (k a : Int) (s : ByteArray) (x : Nat), e = .returned (.tuple #[tkA k a s x, .int .i64 p, .bool false])) ∧ Below w.heap.size w w'

theorem one_cell (w : World) (cs : Array Value) (t : TypeId) (i : Nat) : (w.alloc (.cells cs t)).cell? ⟨w.heap.size, i, none⟩ = cs[i]? :=
  cell_of_row _ _ i cs t (0, 0) (heap_alloc_new w _)

theorem extract_take (s : ByteArray) (n : Nat) : (s.extract 0 n).data.toList = s.data.toList.take n := by
  rw [Lib.extract_data]; simp
theorem strOf_take (s : ByteArray) (n : Nat) : strOf (s.data.toList.take n) = s.extract 0 n := (strOf_inj (extract_take s n)).symm
theorem head_cons (s : ByteArray) (h : 0 < s.size) : s.data.toList = s[0]'h :: s.data.toList.drop 1 := by
  have := drop_cons s 0 h
  rwa [List.drop_zero] at this

theorem kind_letter {c : UInt8} (h : Lx.isL c = true) : kindI c = 1 := by unfold kindI; rw [h]; rfl
theorem kind_digit {c : UInt8} (h : Lx.isL c = false) (h2 : dig c = true) : kindI c = 2 := by unfold kindI; rw [h, h2]; rfl
theorem kind_quote {c : UInt8} (h : Lx.isL c = false) (h2 : dig c = false) (h3 : Lx.isQ c = true) : kindI c = 3 := by unfold kindI; rw [h, h2, h3]; rfl
theorem kind_other {c : UInt8} (h : Lx.isL c = false) (h2 : dig c = false) (h3 : Lx.isQ c = false) : kindI c = 0 := by unfold kindI; rw [h, h2, h3]; rfl


set_option maxHeartbeats 4000000 in
theorem token_letter (s : ByteArray) (m : Int) (w : World) (hs : s.size ≤ 70000) (h0 : 0 < s.size) (hm : w.cell? ⟨1, 0, none⟩ = some (.int .i64 m)) (hw : 1 < w.heap.size) (hl : Lx.isL (s[0]'h0) = true) :
    Calls Tryd.prog 107 #[.string s] w (TokOut (Lx.tokL s.data.toList) w) := by
  have hh := head_cons s h0
  have hrl := Lx.runL_le s.data.toList
  rw [size_list] at hrl
  have hR : Lx.tokL s.data.toList = (if 4096 < Lx.runL s.data.toList then .error 0 else .ok ((if Lx.wrd (s.data.toList.take (Lx.runL s.data.toList)) then 2 else 1, s.data.toList.take (Lx.runL s.data.toList), 0), Lx.runL s.data.toList)) := by
    conv => lhs; rw [hh]
    rw [Lx.tokL, if_pos hl, ← hh]
  rw [hR]
  have q0 := Lib.hid (fun w' => kind_any (s[0]'h0) w')
  rw [kind_letter hl] at q0
  have q1 := Lib.hid (fun w' => run_any s w' hs)
  generalize Lx.runL s.data.toList = n at *
  have q2 := Lib.hid (fun w' hm' => lexWord_any (s.extract 0 n) m w' (by simp; omega) hm')
  rw [extract_take] at q2
  have hst := Lib.hid (strOf_take s n)
  obtain ⟨c, hc⟩ : ∃ c, s[0]'h0 = c := ⟨_, rfl⟩
  rw [hc] at q0
  have hm' := Lib.hid hm
  have hp : 0 < (s.size : Int) := by omega
  have hnl : (n : Int) ≤ s.size := by omega
  have hn0 : (0 : Int) ≤ n := by omega
  generalize hV : Lx.wrd (s.data.toList.take n) = V at *
  clear hh hR hl hm hV
  by_cases h4 : 4096 < n
  · have h5 : 4096 < (n : Int) := by omega
    rw [if_pos h4]
    clear h4
    cases V
    · go_enter Tryd.func107, Tryd.ntmps107
      go_wp2_with fail
      refine (q0.out _).mono ?_; rintro e w' ⟨rfl, rfl⟩
      go_wp2_with fail
      refine (q1.out _).mono ?_; rintro e w' ⟨rfl, rfl⟩
      go_wp2_with fail
      refine (q2.out _ ?_).mono ?_
      · exact (World.cell?_alloc_lt _ _ ⟨1, 0, none⟩ hw).trans hm'.out
      rintro e w' ⟨rfl, rfl⟩
      go_wp2
      exact bodyPost_ret (v := .tuple #[tkA 1 0 (s.extract 0 n) 0, .int .i64 0, .bool false]) (by simp [results, Tryd.results107, go_sem]; rfl) rfl ⟨⟨_, _, _, _, rfl⟩, below_one⟩
    · go_enter Tryd.func107, Tryd.ntmps107
      go_wp2_with fail
      refine (q0.out _).mono ?_; rintro e w' ⟨rfl, rfl⟩
      go_wp2_with fail
      refine (q1.out _).mono ?_; rintro e w' ⟨rfl, rfl⟩
      go_wp2_with fail
      refine (q2.out _ ?_).mono ?_
      · exact (World.cell?_alloc_lt _ _ ⟨1, 0, none⟩ hw).trans hm'.out
      rintro e w' ⟨rfl, rfl⟩
      go_wp2
      exact bodyPost_ret (v := .tuple #[tkA 2 0 (s.extract 0 n) 0, .int .i64 0, .bool false]) (by simp [results, Tryd.results107, go_sem]; rfl) rfl ⟨⟨_, _, _, _, rfl⟩, below_one⟩
  · have h5 : ¬ 4096 < (n : Int) := by omega
    rw [if_neg h4]
    clear h4
    cases V
    · go_enter Tryd.func107, Tryd.ntmps107
      go_wp2_with fail
      refine (q0.out _).mono ?_; rintro e w' ⟨rfl, rfl⟩
      go_wp2_with fail
      refine (q1.out _).mono ?_; rintro e w' ⟨rfl, rfl⟩
      go_wp2_with fail
      refine (q2.out _ ?_).mono ?_
      · exact (World.cell?_alloc_lt _ _ ⟨1, 0, none⟩ hw).trans hm'.out
      rintro e w' ⟨rfl, rfl⟩
      go_wp2
      exact bodyPost_ret (v := .tuple #[tkA 1 0 (s.extract 0 n) 0, .int .i64 n, .bool true]) (by simp [results, Tryd.results107, go_sem]; rfl) rfl ⟨by simp [hst.out], below_one⟩
    · go_enter Tryd.func107, Tryd.ntmps107
      go_wp2_with fail
      refine (q0.out _).mono ?_; rintro e w' ⟨rfl, rfl⟩
      go_wp2_with fail
      refine (q1.out _).mono ?_; rintro e w' ⟨rfl, rfl⟩
      go_wp2_with fail
      refine (q2.out _ ?_).mono ?_
      · exact (World.cell?_alloc_lt _ _ ⟨1, 0, none⟩ hw).trans hm'.out
      rintro e w' ⟨rfl, rfl⟩
      go_wp2
      exact bodyPost_ret (v := .tuple #[tkA 2 0 (s.extract 0 n) 0, .int .i64 n, .bool true]) (by simp [results, Tryd.results107, go_sem]; rfl) rfl ⟨by simp [hst.out], below_one⟩

theorem dropWhile_nil_all (p : UInt8 → Bool) : ∀ l : List UInt8, l.dropWhile p = [] → ∀ c ∈ l, p c = true
  | [], _, c, hc => by cases hc
  | a :: l, h, c, hc => by
    rw [List.dropWhile_cons] at h
    by_cases e : p a = true
    · rw [if_pos e] at h
      rcases List.mem_cons.1 hc with rfl | hc
      · exact e
      · exact dropWhile_nil_all p l h c hc
    · rw [if_neg e] at h; cases h
theorem all_dropWhile_nil (p : UInt8 → Bool) : ∀ l : List UInt8, (∀ c ∈ l, p c = true) → l.dropWhile p = []
  | [], _ => rfl
  | a :: l, h => by
    rw [List.dropWhile_cons, if_pos (h a (by simp))]
    exact all_dropWhile_nil p l (fun c hc => h c (List.mem_cons_of_mem _ hc))
theorem below_store4 {w w5 : World} {b : Nat} (h : Below w.heap.size w w5) (hb : w.heap.size ≤ b) (v0 v1 v2 v3 : Value) :
    Below w.heap.size w ((((w5.setCell ⟨b, 0, none⟩ v0).setCell ⟨b, 1, none⟩ v1).setCell ⟨b, 2, none⟩ v2).setCell ⟨b, 3, none⟩ v3) :=
  (((h.setCell hb v0).setCell hb v1).setCell hb v2).setCell hb v3
theorem cell_other {w : World} {b : Nat} (i j : Nat) (h : i ≠ j) (v : Value) : (w.setCell ⟨b, i, none⟩ v).cell? ⟨b, j, none⟩ = w.cell? ⟨b, j, none⟩ :=
  World.cell?_setCell_other _ _ _ _ (by intro e; injection e with _ e _; exact h e)
theorem store4_at {w : World} {b : Nat} {u0 u1 u2 u3 : Value} (h : w.cell? ⟨b, 0, none⟩ = some u0 ∧ w.cell? ⟨b, 1, none⟩ = some u1 ∧ w.cell? ⟨b, 2, none⟩ = some u2 ∧ w.cell? ⟨b, 3, none⟩ = some u3) (v0 v1 v2 v3 : Value) :
    ((((w.setCell ⟨b, 0, none⟩ v0).setCell ⟨b, 1, none⟩ v1).setCell ⟨b, 2, none⟩ v2).setCell ⟨b, 3, none⟩ v3).cell? ⟨b, 0, none⟩ = some v0 ∧
    ((((w.setCell ⟨b, 0, none⟩ v0).setCell ⟨b, 1, none⟩ v1).setCell ⟨b, 2, none⟩ v2).setCell ⟨b, 3, none⟩ v3).cell? ⟨b, 1, none⟩ = some v1 ∧
    ((((w.setCell ⟨b, 0, none⟩ v0).setCell ⟨b, 1, none⟩ v1).setCell ⟨b, 2, none⟩ v2).setCell ⟨b, 3, none⟩ v3).cell? ⟨b, 2, none⟩ = some v2 ∧
    ((((w.setCell ⟨b, 0, none⟩ v0).setCell ⟨b, 1, none⟩ v1).setCell ⟨b, 2, none⟩ v2).setCell ⟨b, 3, none⟩ v3).cell? ⟨b, 3, none⟩ = some v3 := by
  obtain ⟨h0, h1, h2, h3⟩ := h
  refine ⟨?_, ?_, ?_, ?_⟩
  · rw [cell_other 3 0 (by decide), cell_other 2 0 (by decide), cell_other 1 0 (by decide), World.cell?_setCell_same _ _ _ h0]
  · rw [cell_other 3 1 (by decide), cell_other 2 1 (by decide)]
    exact World.cell?_setCell_same _ _ _ ((cell_other 0 1 (by decide) _).trans h1)
  · rw [cell_other 3 2 (by decide)]
    exact World.cell?_setCell_same _ _ _ ((cell_other 1 2 (by decide) _).trans ((cell_other 0 2 (by decide) _).trans h2))
  · exact World.cell?_setCell_same _ _ _ ((cell_other 2 3 (by decide) _).trans ((cell_other 1 3 (by decide) _).trans ((cell_other 0 3 (by decide) _).trans h3)))
theorem token_end {a : Act} {W w : World} {b : Nat} {R : Except Nat (Lx.Tk × Nat)} {k p : Int} {s : ByteArray} {x : Nat} {n : Int} {ok : Bool}
    (h : W.cell? ⟨b, 0, none⟩ = some (.int .u8 k) ∧ W.cell? ⟨b, 1, none⟩ = some (.int .i64 p) ∧ W.cell? ⟨b, 2, none⟩ = some (.string s) ∧ W.cell? ⟨b, 3, none⟩ = some (.float .f64 x))
    (hb : a.tmps[2]? = some (.pointer (some ⟨b, 0, none⟩))) (hn : a.tmps[3]? = some (.int .i64 n)) (ho : a.tmps[4]? = some (.bool ok)) (hd : a.defers = [])
    (post : TokOut R w (.returned (.tuple #[tkA k p s x, .int .i64 n, .bool ok])) W) : bodyPost Tryd.prog Tryd.f107 (TokOut R w) .ret a W := by
  obtain ⟨h0, h1, h2, h3⟩ := h
  exact bodyPost_ret (v := .tuple #[tkA k p s x, .int .i64 n, .bool ok]) (by simp [results, Tryd.results107, go_sem, hb, hn, ho, h0, h1, h2, h3]; rfl) hd post
theorem trim_digits (l : List UInt8) : (Lib.trimS l [48, 49, 50, 51, 52, 53, 54, 55, 56, 57] = []) ↔ l.all dig = true := by
  have hd : ∀ c : UInt8, ([48, 49, 50, 51, 52, 53, 54, 55, 56, 57] : List UInt8).contains c = dig c := all_bytes (by decide +kernel)
  constructor
  · intro h
    rw [List.all_eq_true]
    intro c hc
    rcases Bool.eq_false_or_eq_true (dig c) with e | e
    · exact e
    · exfalso
      obtain ⟨a, b, rfl⟩ := List.append_of_mem hc
      have : Lib.trimS (a ++ c :: b) [48, 49, 50, 51, 52, 53, 54, 55, 56, 57] ≠ [] := by
        unfold Lib.trimS Lib.trimLeftS Lib.trimRightS
        intro h2
        have h3 := dropWhile_nil_all _ _ h2 c
        have hm : c ∈ (List.dropWhile (fun b => [48, 49, 50, 51, 52, 53, 54, 55, 56, 57].contains b) (a ++ c :: b).reverse).reverse := by
          rw [List.mem_reverse]
          have e2 : (a ++ c :: b).reverse = b.reverse ++ (c :: a.reverse) := by simp
          rw [e2]
          have e3 : ∀ x : List UInt8, c ∈ List.dropWhile (fun b => [48, 49, 50, 51, 52, 53, 54, 55, 56, 57].contains b) (x ++ (c :: a.reverse)) := by
            intro x
            induction x with
            | nil =>
              rw [List.nil_append, List.dropWhile_cons, if_neg (by rw [hd, e]; simp)]
              simp
            | cons y x ih =>
              rw [List.cons_append, List.dropWhile_cons]
              split
              · exact ih
              · simp
          exact e3 b.reverse
        have := h3 hm
        rw [hd, e] at this
        cases this
      exact this h
  · intro h
    unfold Lib.trimS Lib.trimLeftS Lib.trimRightS
    have e : l.reverse.dropWhile (fun b => [48, 49, 50, 51, 52, 53, 54, 55, 56, 57].contains b) = [] := by
      refine all_dropWhile_nil _ _ fun c hc => ?_
      rw [hd]
      exact List.all_eq_true.1 h c (List.mem_reverse.1 hc)
    rw [e]; rfl
theorem read_digits {l : List UInt8} (h0 : l ≠ []) (h : l.all dig = true) : readL (trimV (strOf l)).data.toList = if 9007199254740991 < valL l then (some 0, 10) else (some (valL l : Int), 0) := by
  have hb : ∀ c : UInt8, dig c = true → blanks.contains c = false := all_bytes (by decide +kernel)
  have h45 : ∀ c : UInt8, dig c = true → c.toNat ≠ 45 ∧ c.toNat ≠ 43 := all_bytes (by decide +kernel)
  rw [no_blank_trim (fun c hc => hb c (List.all_eq_true.1 h c hc)), strOf_list]
  cases l with
  | nil => exact absurd rfl h0
  | cons c r =>
    have hc := h45 c (List.all_eq_true.1 h c (by simp))
    rw [readL, if_neg hc.1, if_neg hc.2, readD, if_neg h0, if_neg (by rw [h]; simp)]
    by_cases hv : 9007199254740991 < valL (c :: r)
    · rw [if_pos (.inl hv), if_pos hv]
    · rw [if_neg (by simp; omega), if_neg hv]; rfl

set_option maxHeartbeats 8000000 in
theorem token_digit (s : ByteArray) (w : World) (hs : s.size ≤ 70000) (h0 : 0 < s.size) (hl : Lx.isL (s[0]'h0) = false) (hd : dig (s[0]'h0) = true) :
    Calls Tryd.prog 107 #[.string s] w (TokOut (Lx.tokL s.data.toList) w) := by
  have hh := head_cons s h0
  have hrl := Lx.runL_le s.data.toList
  rw [size_list] at hrl
  have hr1 : 1 ≤ Lx.runL s.data.toList := by
    rw [hh]; unfold Lx.runL; rw [List.takeWhile_cons, show Lx.nm (s[0]'h0) = true from by unfold Lx.nm; rw [hd]; simp]; simp
  obtain ⟨c, hc⟩ : ∃ c, s[0]'h0 = c := ⟨_, rfl⟩
  have hR : Lx.tokL s.data.toList = (if (s.data.toList.take (Lx.runL s.data.toList)).all dig = false ∨ (c.toNat = 48 ∧ 1 < Lx.runL s.data.toList) ∨ 16 < Lx.runL s.data.toList ∨ 9007199254740991 < valL (s.data.toList.take (Lx.runL s.data.toList)) then .error 0
       else .ok ((3, [], Fl.W (valL (s.data.toList.take (Lx.runL s.data.toList)))), Lx.runL s.data.toList)) := by
    conv => lhs; rw [hh]
    rw [Lx.tokL, if_neg (by rw [hl]; simp), if_pos hd, ← hh, hc]
  rw [hR]
  have q0 := Lib.hid (fun w' => kind_any (s[0]'h0) w')
  rw [kind_digit hl hd, hc] at q0
  have q1 := Lib.hid (fun w' => run_any s w' hs)
  generalize Lx.runL s.data.toList = n at *
  obtain ⟨T, hT⟩ : ∃ T, s.extract 0 n = T := ⟨_, rfl⟩
  have hTl : T.data.toList = s.data.toList.take n := by rw [← hT, extract_take]
  have hTs : T.size = n := by rw [← size_list, hTl, List.length_take, size_list]; omega
  have hTm : strOf T.data.toList = T := (strOf_inj rfl).symm
  have q2 : Hid (∀ w', Calls Tryd.prog 87 #[.string T, .string ⟨#[48, 49, 50, 51, 52, 53, 54, 55, 56, 57]⟩] w' fun e w'' => e = .returned (.string (strOf (Lib.trimS T.data.toList [48, 49, 50, 51, 52, 53, 54, 55, 56, 57]))) ∧ Below w'.heap.size w' w'') :=
    Lib.hid (fun w' => Any.strings_Trim_laid Tryd.lays160 (by kernel_rfl) T ⟨#[48, 49, 50, 51, 52, 53, 54, 55, 56, 57]⟩ w' (by omega) (by decide) (Go.Proofs.ascii_of_all (by decide)))
  have htr := trim_digits T.data.toList
  rw [← hTl]
  have hp : 0 < (s.size : Int) := by omega
  have hnl : (n : Int) ≤ s.size := by omega
  have hn0 : (0 : Int) ≤ n := by omega
  have hlt := c.toNat_lt
  by_cases a1 : T.data.toList.all dig = true
  · rw [htr.2 a1, show strOf [] = ByteArray.empty from rfl] at q2
    have hre := read_digits (l := T.data.toList) (by intro e; rw [← size_list, e] at hTs; simp at hTs; omega) a1
    rw [hTm] at hre
    have q3 := Lib.hid (fun w' => read_any T w' (by omega))
    rw [hre] at q3
    have hT' := Lib.hid hTl
    have qM := Lib.hid (fun (z : Nat) w' (hz : z < 18446744073709551616) => may_any z w' hz)
    by_cases a2 : c.toNat = 48 ∧ 1 < n
    · rw [if_pos (.inr (.inl a2))]
      have d1 : ((c.toNat : Int) == 48) = true := by simp; omega
      have d2 : 1 < (n : Int) := by omega
      clear a1 a2 htr hre hR hh hl hd hTl hTm hTs q3
      go_enter Tryd.func107, Tryd.ntmps107
      go_wp2_with fail
      refine (q0.out _).mono ?_; rintro e w' ⟨rfl, rfl⟩
      go_wp2_with fail
      refine (q1.out _).mono ?_; rintro e w' ⟨rfl, rfl⟩
      go_wp2_with fail
      refine (q2.out _).mono ?_; rintro e w1 ⟨rfl, b1⟩
      obtain ⟨hc1, hf1⟩ := bcell b1
      have hz : w.heap.size < w1.heap.size := by have := b1.size; simp at this; omega
      have i0 : w1.cell? ⟨w.heap.size, 0, none⟩ = some (.int .u8 0) := (hc1 _ 0 (by simp)).trans (one_cell _ _ _ 0)
      have i1 : w1.cell? ⟨w.heap.size, 1, none⟩ = some (.int .i64 0) := (hc1 _ 1 (by simp)).trans (one_cell _ _ _ 1)
      have i2 : w1.cell? ⟨w.heap.size, 2, none⟩ = some (.string ByteArray.empty) := (hc1 _ 2 (by simp)).trans (one_cell _ _ _ 2)
      have i3 : w1.cell? ⟨w.heap.size, 3, none⟩ = some (.float .f64 0) := (hc1 _ 3 (by simp)).trans (one_cell _ _ _ 3)
      have f0 : ∀ o, w1.frozen? ⟨w.heap.size, o, none⟩ = false := fun o => (hf1 _ o (by simp)).trans (by simp [go_sem])
      have B1 := Lib.hid (below_step b1)
      clear b1 hc1 hf1
      go_wp2
      exact token_end (store4_at ⟨i0, i1, i2, i3⟩ _ _ _ _) rfl rfl rfl rfl ⟨⟨_, _, _, _, rfl⟩, below_store4 B1.out (Nat.le_refl _) _ _ _ _⟩
    · by_cases a3 : 16 < n
      · rw [if_pos (.inr (.inr (.inl a3)))]
        have d3 : 16 < (n : Int) := by omega
        clear a1 htr hre hR hh hl hd hTl hTm hTs q3
        have d1 : ((c.toNat : Int) == 48) = false := by simp; omega
        clear a2 a3
        go_enter Tryd.func107, Tryd.ntmps107
        go_wp2_with fail
        refine (q0.out _).mono ?_; rintro e w' ⟨rfl, rfl⟩
        go_wp2_with fail
        refine (q1.out _).mono ?_; rintro e w' ⟨rfl, rfl⟩
        go_wp2_with fail
        refine (q2.out _).mono ?_; rintro e w1 ⟨rfl, b1⟩
        obtain ⟨hc1, hf1⟩ := bcell b1
        have hz : w.heap.size < w1.heap.size := by have := b1.size; simp at this; omega
        have i0 : w1.cell? ⟨w.heap.size, 0, none⟩ = some (.int .u8 0) := (hc1 _ 0 (by simp)).trans (one_cell _ _ _ 0)
        have i1 : w1.cell? ⟨w.heap.size, 1, none⟩ = some (.int .i64 0) := (hc1 _ 1 (by simp)).trans (one_cell _ _ _ 1)
        have i2 : w1.cell? ⟨w.heap.size, 2, none⟩ = some (.string ByteArray.empty) := (hc1 _ 2 (by simp)).trans (one_cell _ _ _ 2)
        have i3 : w1.cell? ⟨w.heap.size, 3, none⟩ = some (.float .f64 0) := (hc1 _ 3 (by simp)).trans (one_cell _ _ _ 3)
        have f0 : ∀ o, w1.frozen? ⟨w.heap.size, o, none⟩ = false := fun o => (hf1 _ o (by simp)).trans (by simp [go_sem])
        have B1 := Lib.hid (below_step b1)
        clear b1 hc1 hf1
        go_wp2
        exact token_end (store4_at ⟨i0, i1, i2, i3⟩ _ _ _ _) rfl rfl rfl rfl ⟨⟨_, _, _, _, rfl⟩, below_store4 B1.out (Nat.le_refl _) _ _ _ _⟩
      · have d3 : ¬ 16 < (n : Int) := by omega
        by_cases a4 : 9007199254740991 < valL T.data.toList
        · rw [if_pos (.inr (.inr (.inr a4)))]
          rw [if_pos a4] at q3
          clear a1 a3 a4 htr hre hR hh hl hd hTl hTm hTs
          by_cases e48 : c.toNat = 48
          · have d1 : ((c.toNat : Int) == 48) = true := by simp; omega
            have d2 : ¬ 1 < (n : Int) := by omega
            clear e48 a2
            go_enter Tryd.func107, Tryd.ntmps107
            go_wp2_with fail
            refine (q0.out _).mono ?_; rintro e w' ⟨rfl, rfl⟩
            go_wp2_with fail
            refine (q1.out _).mono ?_; rintro e w' ⟨rfl, rfl⟩
            go_wp2_with fail
            refine (q2.out _).mono ?_; rintro e w1 ⟨rfl, b1⟩
            obtain ⟨hc1, hf1⟩ := bcell b1
            have hz : w.heap.size < w1.heap.size := by have := b1.size; simp at this; omega
            have i0 : w1.cell? ⟨w.heap.size, 0, none⟩ = some (.int .u8 0) := (hc1 _ 0 (by simp)).trans (one_cell _ _ _ 0)
            have i1 : w1.cell? ⟨w.heap.size, 1, none⟩ = some (.int .i64 0) := (hc1 _ 1 (by simp)).trans (one_cell _ _ _ 1)
            have i2 : w1.cell? ⟨w.heap.size, 2, none⟩ = some (.string ByteArray.empty) := (hc1 _ 2 (by simp)).trans (one_cell _ _ _ 2)
            have i3 : w1.cell? ⟨w.heap.size, 3, none⟩ = some (.float .f64 0) := (hc1 _ 3 (by simp)).trans (one_cell _ _ _ 3)
            have f0 : ∀ o, w1.frozen? ⟨w.heap.size, o, none⟩ = false := fun o => (hf1 _ o (by simp)).trans (by simp [go_sem])
            have B1 := Lib.hid (below_step b1)
            clear b1 hc1 hf1
            go_wp2_with fail
            refine (q3.out _).mono ?_; rintro e w2 ⟨z, rfl, hzz, b2⟩
            have B2 := Lib.hid (B1.out.trans (b2.mono B1.out.size))
            obtain ⟨hc2, hf2⟩ := bcell b2
            have j0 : w2.cell? ⟨w.heap.size, 0, none⟩ = some (.int .u8 0) := (hc2 _ 0 hz).trans i0
            have j1 : w2.cell? ⟨w.heap.size, 1, none⟩ = some (.int .i64 0) := (hc2 _ 1 hz).trans i1
            have j2 : w2.cell? ⟨w.heap.size, 2, none⟩ = some (.string ByteArray.empty) := (hc2 _ 2 hz).trans i2
            have j3 : w2.cell? ⟨w.heap.size, 3, none⟩ = some (.float .f64 0) := (hc2 _ 3 hz).trans i3
            have g0 : ∀ o, w2.frozen? ⟨w.heap.size, o, none⟩ = false := fun o => (hf2 _ o hz).trans (f0 o)
            clear hc2 hf2 b2 i0 i1 i2 i3 f0
            clear hzz
            go_wp2
            exact token_end (store4_at ⟨j0, j1, j2, j3⟩ _ _ _ _) rfl rfl rfl rfl ⟨⟨_, _, _, _, rfl⟩, below_store4 B2.out (Nat.le_refl _) _ _ _ _⟩
          · have d1 : ((c.toNat : Int) == 48) = false := by simp; omega
            clear e48 a2
            go_enter Tryd.func107, Tryd.ntmps107
            go_wp2_with fail
            refine (q0.out _).mono ?_; rintro e w' ⟨rfl, rfl⟩
            go_wp2_with fail
            refine (q1.out _).mono ?_; rintro e w' ⟨rfl, rfl⟩
            go_wp2_with fail
            refine (q2.out _).mono ?_; rintro e w1 ⟨rfl, b1⟩
            obtain ⟨hc1, hf1⟩ := bcell b1
            have hz : w.heap.size < w1.heap.size := by have := b1.size; simp at this; omega
            have i0 : w1.cell? ⟨w.heap.size, 0, none⟩ = some (.int .u8 0) := (hc1 _ 0 (by simp)).trans (one_cell _ _ _ 0)
            have i1 : w1.cell? ⟨w.heap.size, 1, none⟩ = some (.int .i64 0) := (hc1 _ 1 (by simp)).trans (one_cell _ _ _ 1)
            have i2 : w1.cell? ⟨w.heap.size, 2, none⟩ = some (.string ByteArray.empty) := (hc1 _ 2 (by simp)).trans (one_cell _ _ _ 2)
            have i3 : w1.cell? ⟨w.heap.size, 3, none⟩ = some (.float .f64 0) := (hc1 _ 3 (by simp)).trans (one_cell _ _ _ 3)
            have f0 : ∀ o, w1.frozen? ⟨w.heap.size, o, none⟩ = false := fun o => (hf1 _ o (by simp)).trans (by simp [go_sem])
            have B1 := Lib.hid (below_step b1)
            clear b1 hc1 hf1
            go_wp2_with fail
            refine (q3.out _).mono ?_; rintro e w2 ⟨z, rfl, hzz, b2⟩
            have B2 := Lib.hid (B1.out.trans (b2.mono B1.out.size))
            obtain ⟨hc2, hf2⟩ := bcell b2
            have j0 : w2.cell? ⟨w.heap.size, 0, none⟩ = some (.int .u8 0) := (hc2 _ 0 hz).trans i0
            have j1 : w2.cell? ⟨w.heap.size, 1, none⟩ = some (.int .i64 0) := (hc2 _ 1 hz).trans i1
            have j2 : w2.cell? ⟨w.heap.size, 2, none⟩ = some (.string ByteArray.empty) := (hc2 _ 2 hz).trans i2
            have j3 : w2.cell? ⟨w.heap.size, 3, none⟩ = some (.float .f64 0) := (hc2 _ 3 hz).trans i3
            have g0 : ∀ o, w2.frozen? ⟨w.heap.size, o, none⟩ = false := fun o => (hf2 _ o hz).trans (f0 o)
            clear hc2 hf2 b2 i0 i1 i2 i3 f0
            clear hzz
            go_wp2
            exact token_end (store4_at ⟨j0, j1, j2, j3⟩ _ _ _ _) rfl rfl rfl rfl ⟨⟨_, _, _, _, rfl⟩, below_store4 B2.out (Nat.le_refl _) _ _ _ _⟩
        · rw [if_neg (by rintro (h | h | h | h); exact (by rw [a1] at h; cases h); exact a2 h; exact a3 h; exact a4 h)]
          rw [if_neg a4] at q3
          have hvm : Fl.may (Fl.W (valL T.data.toList : Nat)) = true := by rw [Fl.may_W, decide_eq_true (by omega)]
          have qm := Lib.hid (fun w' => may_any (Fl.W (valL T.data.toList : Nat)) w' (Fl.W_lt (by omega)))
          rw [hvm] at qm
          generalize hvv : valL T.data.toList = v at *
          clear a1 a3 a4 htr hre hR hh hl hd hTl hTm hTs hvm hvv
          by_cases e48 : c.toNat = 48
          · have d1 : ((c.toNat : Int) == 48) = true := by simp; omega
            have d2 : ¬ 1 < (n : Int) := by omega
            clear e48 a2
            go_enter Tryd.func107, Tryd.ntmps107
            go_wp2_with fail
            refine (q0.out _).mono ?_; rintro e w' ⟨rfl, rfl⟩
            go_wp2_with fail
            refine (q1.out _).mono ?_; rintro e w' ⟨rfl, rfl⟩
            go_wp2_with fail
            refine (q2.out _).mono ?_; rintro e w1 ⟨rfl, b1⟩
            obtain ⟨hc1, hf1⟩ := bcell b1
            have hz : w.heap.size < w1.heap.size := by have := b1.size; simp at this; omega
            have i0 : w1.cell? ⟨w.heap.size, 0, none⟩ = some (.int .u8 0) := (hc1 _ 0 (by simp)).trans (one_cell _ _ _ 0)
            have i1 : w1.cell? ⟨w.heap.size, 1, none⟩ = some (.int .i64 0) := (hc1 _ 1 (by simp)).trans (one_cell _ _ _ 1)
            have i2 : w1.cell? ⟨w.heap.size, 2, none⟩ = some (.string ByteArray.empty) := (hc1 _ 2 (by simp)).trans (one_cell _ _ _ 2)
            have i3 : w1.cell? ⟨w.heap.size, 3, none⟩ = some (.float .f64 0) := (hc1 _ 3 (by simp)).trans (one_cell _ _ _ 3)
            have f0 : ∀ o, w1.frozen? ⟨w.heap.size, o, none⟩ = false := fun o => (hf1 _ o (by simp)).trans (by simp [go_sem])
            have B1 := Lib.hid (below_step b1)
            clear b1 hc1 hf1
            go_wp2_with fail
            refine (q3.out _).mono ?_; rintro e w2 ⟨z, rfl, hzz, b2⟩
            have B2 := Lib.hid (B1.out.trans (b2.mono B1.out.size))
            obtain ⟨hc2, hf2⟩ := bcell b2
            have j0 : w2.cell? ⟨w.heap.size, 0, none⟩ = some (.int .u8 0) := (hc2 _ 0 hz).trans i0
            have j1 : w2.cell? ⟨w.heap.size, 1, none⟩ = some (.int .i64 0) := (hc2 _ 1 hz).trans i1
            have j2 : w2.cell? ⟨w.heap.size, 2, none⟩ = some (.string ByteArray.empty) := (hc2 _ 2 hz).trans i2
            have j3 : w2.cell? ⟨w.heap.size, 3, none⟩ = some (.float .f64 0) := (hc2 _ 3 hz).trans i3
            have g0 : ∀ o, w2.frozen? ⟨w.heap.size, o, none⟩ = false := fun o => (hf2 _ o hz).trans (f0 o)
            clear hc2 hf2 b2 i0 i1 i2 i3 f0
            obtain ⟨rfl, _⟩ := hzz
            go_wp2_with fail
            refine (qm.out _).mono ?_; rintro e w' ⟨rfl, rfl⟩
            go_wp2
            exact token_end (store4_at (store4_at ⟨j0, j1, j2, j3⟩ _ _ _ _) _ _ _ _) rfl rfl rfl rfl ⟨rfl, below_store4 (below_store4 B2.out (Nat.le_refl _) _ _ _ _) (Nat.le_refl _) _ _ _ _⟩
          · have d1 : ((c.toNat : Int) == 48) = false := by simp; omega
            clear e48 a2
            go_enter Tryd.func107, Tryd.ntmps107
            go_wp2_with fail
            refine (q0.out _).mono ?_; rintro e w' ⟨rfl, rfl⟩
            go_wp2_with fail
            refine (q1.out _).mono ?_; rintro e w' ⟨rfl, rfl⟩
            go_wp2_with fail
            refine (q2.out _).mono ?_; rintro e w1 ⟨rfl, b1⟩
            obtain ⟨hc1, hf1⟩ := bcell b1
            have hz : w.heap.size < w1.heap.size := by have := b1.size; simp at this; omega
            have i0 : w1.cell? ⟨w.heap.size, 0, none⟩ = some (.int .u8 0) := (hc1 _ 0 (by simp)).trans (one_cell _ _ _ 0)
            have i1 : w1.cell? ⟨w.heap.size, 1, none⟩ = some (.int .i64 0) := (hc1 _ 1 (by simp)).trans (one_cell _ _ _ 1)
            have i2 : w1.cell? ⟨w.heap.size, 2, none⟩ = some (.string ByteArray.empty) := (hc1 _ 2 (by simp)).trans (one_cell _ _ _ 2)
            have i3 : w1.cell? ⟨w.heap.size, 3, none⟩ = some (.float .f64 0) := (hc1 _ 3 (by simp)).trans (one_cell _ _ _ 3)
            have f0 : ∀ o, w1.frozen? ⟨w.heap.size, o, none⟩ = false := fun o => (hf1 _ o (by simp)).trans (by simp [go_sem])
            have B1 := Lib.hid (below_step b1)
            clear b1 hc1 hf1
            go_wp2_with fail
            refine (q3.out _).mono ?_; rintro e w2 ⟨z, rfl, hzz, b2⟩
            have B2 := Lib.hid (B1.out.trans (b2.mono B1.out.size))
            obtain ⟨hc2, hf2⟩ := bcell b2
            have j0 : w2.cell? ⟨w.heap.size, 0, none⟩ = some (.int .u8 0) := (hc2 _ 0 hz).trans i0
            have j1 : w2.cell? ⟨w.heap.size, 1, none⟩ = some (.int .i64 0) := (hc2 _ 1 hz).trans i1
            have j2 : w2.cell? ⟨w.heap.size, 2, none⟩ = some (.string ByteArray.empty) := (hc2 _ 2 hz).trans i2
            have j3 : w2.cell? ⟨w.heap.size, 3, none⟩ = some (.float .f64 0) := (hc2 _ 3 hz).trans i3
            have g0 : ∀ o, w2.frozen? ⟨w.heap.size, o, none⟩ = false := fun o => (hf2 _ o hz).trans (f0 o)
            clear hc2 hf2 b2 i0 i1 i2 i3 f0
            obtain ⟨rfl, _⟩ := hzz
            go_wp2_with fail
            refine (qm.out _).mono ?_; rintro e w' ⟨rfl, rfl⟩
            go_wp2
            exact token_end (store4_at (store4_at ⟨j0, j1, j2, j3⟩ _ _ _ _) _ _ _ _) rfl rfl rfl rfl ⟨rfl, below_store4 (below_store4 B2.out (Nat.le_refl _) _ _ _ _) (Nat.le_refl _) _ _ _ _⟩
  · rw [if_pos (.inl (Bool.eq_false_iff.2 a1))]
    have hX : Lib.trimS T.data.toList [48, 49, 50, 51, 52, 53, 54, 55, 56, 57] ≠ [] := fun e => a1 (htr.1 e)
    have hXs : (strOf (Lib.trimS T.data.toList [48, 49, 50, 51, 52, 53, 54, 55, 56, 57])).size ≠ 0 := by rw [← size_list, strOf_list]; intro e; exact hX (List.length_eq_zero_iff.1 e)
    generalize strOf (Lib.trimS T.data.toList [48, 49, 50, 51, 52, 53, 54, 55, 56, 57]) = X at q2 hXs
    have he := isEmpty_of hXs
    have hxn : X.toList ≠ [] := by intro e; rw [e] at he; cases he
    clear a1 htr hR hh hl hd hTl hTm hTs hX hXs
    go_enter Tryd.func107, Tryd.ntmps107
    go_wp2_with fail
    refine (q0.out _).mono ?_; rintro e w' ⟨rfl, rfl⟩
    go_wp2_with fail
    refine (q1.out _).mono ?_; rintro e w' ⟨rfl, rfl⟩
    go_wp2_with fail
    refine (q2.out _).mono ?_; rintro e w1 ⟨rfl, b1⟩
    obtain ⟨hc1, hf1⟩ := bcell b1
    have hz : w.heap.size < w1.heap.size := by have := b1.size; simp at this; omega
    have i0 : w1.cell? ⟨w.heap.size, 0, none⟩ = some (.int .u8 0) := (hc1 _ 0 (by simp)).trans (one_cell _ _ _ 0)
    have i1 : w1.cell? ⟨w.heap.size, 1, none⟩ = some (.int .i64 0) := (hc1 _ 1 (by simp)).trans (one_cell _ _ _ 1)
    have i2 : w1.cell? ⟨w.heap.size, 2, none⟩ = some (.string ByteArray.empty) := (hc1 _ 2 (by simp)).trans (one_cell _ _ _ 2)
    have i3 : w1.cell? ⟨w.heap.size, 3, none⟩ = some (.float .f64 0) := (hc1 _ 3 (by simp)).trans (one_cell _ _ _ 3)
    have f0 : ∀ o, w1.frozen? ⟨w.heap.size, o, none⟩ = false := fun o => (hf1 _ o (by simp)).trans (by simp [go_sem])
    have B1 := Lib.hid (below_step b1)
    clear b1 hc1 hf1
    go_wp2
    exact token_end (store4_at ⟨i0, i1, i2, i3⟩ _ _ _ _) rfl rfl rfl rfl ⟨⟨_, _, _, _, rfl⟩, below_store4 B1.out (Nat.le_refl _) _ _ _ _⟩
end Go.Proofs.YtajmdpndbfmdmaaDoor
