/-
  What lex.Text needs: a builder under other blocks, a row of tokens as it is read, the text of tokens in plain Lean.
-/
import Derived.Test.YtajmdpndbfmdmaaDoorLexH
import Derived.Test.YtajmdpndbfmdmaaDoorLexF
import Derived.Test.YtajmdpndbfmdmaaDoorAgaB
import Derived.Lib.OthersKept
namespace Go.Proofs.YtajmdpndbfmdmaaDoor
open Go Go.RowKit

theorem bld_below {B b : Nat} {p : Value} {bs : List Value} {W W' : World} (h : Lib.BuilderAt 86 5 B b p bs W) (hb : Below W.heap.size W W') : Lib.BuilderAt 86 5 B b p bs W' := by
  have hlt := h.lt
  obtain ⟨h1, v, h2, h3, h4⟩ := h
  refine ⟨h1, v, (hb.block b hlt).trans h2, ⟨h3.1, ?_⟩, h4⟩
  rcases h3.2 with h | ⟨g, cap, cur, e, hg, hh, hr⟩
  · exact .inl h
  · have hlt : g < W.heap.size := (Array.getElem?_eq_some_iff.1 hh).1
    exact .inr ⟨g, cap, cur, e, hg, (hb.block g hlt).trans hh, hr⟩
theorem bw_below {w : World} {l : List UInt8} {w1 w2 : World} (h : Hid (Bw w l w1)) (hb : Below w1.heap.size w1 w2) : Hid (Bw w l w2) :=
  Lib.hid ⟨h.out.1.elim (fun x => .inl (bld_below x hb)) (fun x => .inr (bld_below x hb)), h.out.2.trans (hb.mono h.out.2.size)⟩

theorem check_anyK (B b : Nat) (bs : List Value) (w : World) (h : IsB B b bs w) :
    Calls Tryd.prog 132 #[.pointer (some ⟨b, 0, none⟩)] w fun e w' => e = .returned (.tuple #[]) ∧ (Lib.BuilderAt 86 5 B b (.pointer (some ⟨b, 0, none⟩)) bs w' ∧ Below B w w' ∧ Lib.OthersKept 5 (some b) w w') := by
  rcases h with h | h
  · refine (check_fresh b w h.cell0 h.shape h.frozen0).mono ?_
    rintro e w' ⟨rfl, rfl⟩
    exact ⟨rfl, h.used _, (Below.refl B w).setCell (p := ⟨b, 0, none⟩) h.1 _, (Lib.OthersKept.refl _ _ _).setCell ⟨b, 0, none⟩ rfl _⟩
  · refine (check_used b w h.cell0).mono ?_
    rintro e w' ⟨rfl, rfl⟩
    exact ⟨rfl, h, Below.refl B _, Lib.OthersKept.refl _ _ _⟩

set_option maxHeartbeats 2000000 in
set_option maxRecDepth 100000 in
theorem writeByteK (B b : Nat) (bs : List Value) (c : Int) (w : World) (h : IsB B b bs w) (hlen : bs.length + 1 ≤ 140737488355328) (hBw : B ≤ w.heap.size) :
    Calls Tryd.prog 90 #[.pointer (some ⟨b, 0, none⟩), .int .u8 c] w fun e w' => e = .returned .nilIface ∧ IsB B b (bs ++ [.int .u8 c]) w' ∧ Below B w w' ∧ Lib.OthersKept 5 (some b) w w' := by
  obtain ⟨i0, hi, hz0, hz1, hz2⟩ := info_parts byte_info
  go_enter Tryd.func90, Tryd.ntmps90
  go_wp2_with (go_at_call 132; refine (check_anyK B b bs _ h).mono ?_)
  rintro e w1 ⟨rfl, h1, hb1, hk1⟩
  obtain ⟨hB, v, hbk, hown, hne⟩ := h1
  have c0 : w1.cell? ⟨b, 0, none⟩ = some (.pointer (some ⟨b, 0, none⟩)) := by rw [Lib.cell_of_heap hbk]; rfl
  have c1 : w1.cell? ⟨b, 1, none⟩ = some v := by rw [Lib.cell_of_heap hbk]; rfl
  go_wp2_with (at_builtin; refine wpList_append_own _ rfl _ _ 84 rfl B 5 i0 (.int .u8 0) 1 1 Tryd.underlying84 hi hz0 hz1 hz2 rfl (by decide) _ _ _ rfl (hown.alloc _) ⟨w1.heap.size, 0, none⟩ 1 1 [.int .u8 c] rfl rfl ?c1 ?c2 ?c3 ?c4 ?c5 ?_)
  case c1 =>
    intro j u hj
    match j, hj with
    | 0, hj => simp at hj; subst hj; simp [Addr.add]
  case c2 => intro u hu; simp at hu; subst hu; rfl
  case c3 => unfold maxLen; omega
  case c4 => omega
  case c5 => have := hb1.size; simp; omega
  intro v' w2 hown' hgrow _
  have hlt : b < w1.heap.size := by
    rcases Nat.lt_or_ge b w1.heap.size with h' | h'
    · exact h'
    · simp [Array.getElem?_eq_none h'] at hbk
  have hb2 : w2.heap[b]? = some (.cells #[.pointer (some ⟨b, 0, none⟩), v] 86 (0, 0)) := by
    rw [hgrow.block b (by simp; omega) (fun e => hne e.symm), Lib.alloc_old w1 _ b hlt]
    exact hbk
  have d0 : w2.cell? ⟨b, 0, none⟩ = some (.pointer (some ⟨b, 0, none⟩)) := by rw [Lib.cell_of_heap hb2]; rfl
  have d1 : w2.cell? ⟨b, 1, none⟩ = some v := by rw [Lib.cell_of_heap hb2]; rfl
  have f1 : w2.frozen? ⟨b, 1, none⟩ = false := Lib.frozen_of_heap hb2 1
  obtain ⟨g, cap, rfl⟩ : ∃ g cap, v' = .slice (some ⟨g, 0, none⟩) (bs.length + 1) cap := by
    rcases hown'.2 with ⟨_, h0⟩ | ⟨g, cap, cur, hv, _⟩
    · omega
    · exact ⟨g, cap, hv⟩
  go_wp2
  go_ret
  refine ⟨rfl, .inr ?_, ?_, ?_⟩
  · exact Lib.BuilderAt.put (T := 86) (e := 5) hB hb2 (bs' := bs ++ [.int .u8 c]) (by simpa using hown') (by decide)
  · exact ((hb1.alloc (by have := hb1.size; omega) _).grown hgrow (by have := hb1.size; simp; omega) (fun k hk => (hown.lt k hk).1)).setCell (p := ⟨b, 1, none⟩) hB _
  · refine ((hk1.alloc _).grown hgrow ?_).setCell ⟨b, 1, none⟩ rfl _
    intro g' hg'
    rcases hown.2 with ⟨e, _⟩ | ⟨g2, cap2, cur2, e, _, hh, _⟩
    · rw [e] at hg'; simp [Value.ownBlock] at hg'
    · rw [e] at hg'
      have e2 : g2 = g' := by simpa [Value.ownBlock] using hg'
      subst e2
      exact ⟨_, _, (Lib.alloc_old w1 _ g2 (Array.getElem?_eq_some_iff.1 hh).1).trans hh⟩

theorem bwByteK {w : World} {l : List UInt8} {w1 : World} (h : Hid (Bw w l w1)) (u : UInt8) (hlen : l.length ≤ 1000000) :
    Calls Tryd.prog 90 #[.pointer (some ⟨w.heap.size, 0, none⟩), .int .u8 u.toNat] w1 fun e w' => e = .returned .nilIface ∧ Hid (Bw w (l ++ [u]) w' ∧ Lib.OthersKept 5 (some w.heap.size) w1 w') :=
  (writeByteK _ _ (Lib.byteCells l) u.toNat w1 h.out.1 (by rw [Lib.byteCells_length]; omega) h.out.2.size).mono fun _ _ ⟨h1, h2, h3, h4⟩ =>
    ⟨h1, Lib.hid ⟨⟨by unfold Bl; rw [byteCells_snoc]; exact h2, h.out.2.trans h3⟩, h4⟩⟩

namespace Lx
/-- Is a token the end? -/
def endB (t : Tk) : Bool := decide (t.1 = 0) && t.2.1.isEmpty && zero t.2.2
/-- The text of tokens, and the error. -/
def textL (ts : List Tk) : List UInt8 × Nat :=
  if 16385 < ts.length then ([], 4)
  else if (match ts.getLast? with | some t => endB t | none => false) = false then ([], 5)
  else if ts.dropLast.all okB = false then ([], 5)
  else if 65536 < (joinL ts.dropLast).length then ([], 3) else (joinL ts.dropLast, 0)

/-- What stands ahead of a token. -/
def gapL (k : Nat) : List UInt8 := if k = 0 then [] else [32]
theorem join_snoc (l : List Tk) (t : Tk) : joinL (l ++ [t]) = joinL l ++ (gapL l.length ++ wform t) := by
  induction l with
  | nil => rfl
  | cons a l ih =>
    cases l with
    | nil => simp [joinL, gapL]
    | cons b l =>
      have e : joinL (a :: b :: l ++ [t]) = wform a ++ 32 :: joinL (b :: l ++ [t]) := rfl
      have e2 : joinL (a :: b :: l) = wform a ++ 32 :: joinL (b :: l) := rfl
      rw [e, ih, e2]
      simp [gapL]
theorem join_le (l m : List Tk) : (joinL l).length ≤ (joinL (l ++ m)).length := by
  induction m generalizing l with
  | nil => simp
  | cons a m ih =>
    have h := ih (l ++ [a])
    rw [join_snoc] at h
    rw [List.append_assoc] at h
    simp only [List.length_append, List.singleton_append] at h ⊢
    omega
theorem join_take_le (l : List Tk) (k : Nat) : (joinL (l.take k)).length ≤ (joinL l).length := by
  have := join_le (l.take k) (l.drop k)
  rwa [List.take_append_drop] at this

theorem wform_le {t : Tk} (h : okB t = true) : (wform t).length ≤ 70000 := by
  unfold wform
  unfold okB at h
  by_cases h3 : t.1 = 3
  · rw [if_pos h3] at h ⊢
    simp only [Bool.and_eq_true] at h
    have := textS_size t.2.2 h.2
    rwa [size_list]
  · rw [if_neg h3] at h ⊢
    by_cases h4 : t.1 = 4
    · rw [if_pos h4] at h ⊢
      simp only [Bool.and_eq_true, decide_eq_true_eq] at h
      have := Sp.body_length t.2.1
      unfold Sp.quoteL
      simp
      omega
    · rw [if_neg h4] at h ⊢
      by_cases h5 : t.1 = 5
      · rw [if_pos h5] at h
        simp only [Bool.and_eq_true] at h
        have := sgn_mem h.2
        have := (show ∀ s ∈ signList, s.length ≤ 70000 by decide) _ this
        exact this
      · rw [if_neg h5] at h
        split at h
        · simp only [Bool.and_eq_true, decide_eq_true_eq] at h
          omega
        · cases h
end Lx

/-- A row of tokens as it is read: the value is a slice of so many, and the cells lie in the world. -/
def Toks (w : World) (v : Value) (ts : List (Int × Lx.Tk)) : Prop :=
  ∃ A cap, v = .slice A ts.length cap ∧ ts.length ≤ cap ∧ ((ts = [] ∧ True) ∨ ∃ g o, A = some ⟨g, o, none⟩ ∧ g < w.heap.size ∧
    ∀ i t, ts[i]? = some t → w.cell? ⟨g, o + i * 4, none⟩ = some (.int .u8 t.2.1) ∧ w.cell? ⟨g, o + i * 4 + 1, none⟩ = some (.int .i64 t.1) ∧
      w.cell? ⟨g, o + i * 4 + 2, none⟩ = some (.string (strOf t.2.2.1)) ∧ w.cell? ⟨g, o + i * 4 + 3, none⟩ = some (.float .f64 t.2.2.2))
theorem Toks.below {w w' : World} {v : Value} {ts : List (Int × Lx.Tk)} (h : Toks w v ts) (b : Below w.heap.size w w') : Toks w' v ts := by
  obtain ⟨A, cap, e, h1, h2⟩ := h
  refine ⟨A, cap, e, h1, h2.imp id fun ⟨g, o, h3, h4, h5⟩ => ⟨g, o, h3, Nat.lt_of_lt_of_le h4 b.size, fun i t hi => ?_⟩⟩
  obtain ⟨a0, a1, a2, a3⟩ := h5 i t hi
  exact ⟨(b.cell (p := ⟨g, _, none⟩) h4).trans a0, (b.cell (p := ⟨g, _, none⟩) h4).trans a1, (b.cell (p := ⟨g, _, none⟩) h4).trans a2, (b.cell (p := ⟨g, _, none⟩) h4).trans a3⟩

theorem tkRow_at (l : List (Nat × Lx.Tk)) : ∀ (i : Nat) (t : Nat × Lx.Tk) (j : Nat), l[i]? = some t → j < 4 → (tkRow l)[i * 4 + j]? = (tkCells t)[j]? := by
  induction l with
  | nil => intro i t j h; simp at h
  | cons a l ih =>
    intro i t j h hj
    have e : tkRow (a :: l) = tkCells a ++ tkRow l := by unfold tkRow; simp
    have hlen : (tkCells a).length = 4 := rfl
    rw [e]
    cases i with
    | zero =>
      simp at h; subst h
      rw [Nat.zero_mul, Nat.zero_add, List.getElem?_append_left (by omega)]
    | succ i =>
      rw [List.getElem?_append_right (by omega), hlen, show (i + 1) * 4 + j - 4 = i * 4 + j by omega]
      exact ih i t j (by simpa using h) hj
/-- A row of the call's own is such a row. -/
theorem Row.toks {base : Nat} {v : Value} {l : List (Nat × Lx.Tk)} {w : World} (h : Row base v l w) : Toks w v (l.map fun t => ((t.1 : Int), t.2)) := by
  cases l with
  | nil =>
    rcases h.2 with ⟨rfl, _⟩ | ⟨g, cap, cur, rfl, _, _, h1, _⟩
    · exact ⟨none, 0, rfl, by simp, .inl ⟨rfl, trivial⟩⟩
    · exact ⟨_, cap, rfl, by simp, .inl ⟨rfl, trivial⟩⟩
  | cons x l =>
    obtain ⟨g, cap, rfl, hb, hlt, hc, hcap⟩ := h.at
    refine ⟨_, cap, by rw [List.length_map], by rw [List.length_map]; exact hcap, .inr ⟨g, 0, rfl, hlt, fun i t hi => ?_⟩⟩
    rw [List.getElem?_map] at hi
    obtain ⟨u, hu, rfl⟩ := Option.map_eq_some_iff.1 hi
    have hj : ∀ j, j < 4 → (tkRow (x :: l))[0 + i * 4 + j]? = (tkCells u)[j]? := fun j hj => by rw [Nat.zero_add]; exact tkRow_at _ i u j hu hj
    exact ⟨hc _ _ (hj 0 (by omega)), hc _ _ (hj 1 (by omega)), hc _ _ (hj 2 (by omega)), hc _ _ (hj 3 (by omega))⟩
end Go.Proofs.YtajmdpndbfmdmaaDoor
