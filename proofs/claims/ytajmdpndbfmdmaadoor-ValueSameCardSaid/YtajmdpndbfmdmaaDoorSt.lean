/-
  Quoting a string of bytes and reading it back, as plain functions of lists: what is quoted is read as it was. Conditions: each lemma's own hypotheses.
  strings.Builder: copyCheck, WriteByte and WriteString at a builder that the call itself has made: it holds what it held and what was written. Conditions: at most 2^47 bytes in all.
  str.Join, Repeat and the document's return the strings put together; the walk of bailifflaw02.StrMade. Conditions: strings of at most 9,000 bytes.
  str.Quote and the document's return the string as a literal. Conditions: strings of at most 70,000 bytes.
  The document's Quote returns the string as the same literal. Conditions: strings of at most 70,000 bytes.
  str.worth, escape, and the document's sixteen return what the plain theory says. Conditions: none.
  str.Plain returns what stands between two quotes, or where it is wrong. Conditions: none.
  str.place returns the place of a float in a string. Conditions: strings of at most 70,000 bytes; the float is a word of 64 bits.
  str.Part returns what stands between two places; alive; the walk of bailifflaw02.StrBack. Conditions: strings of at most 70,000 bytes.
-/
import Derived.Test.YtajmdpndbfmdmaaDoorShelf
import Derived.Lib.Builder
import Derived.Lib.AppendStr
import Derived.Lib.Slices
import Derived.Lib.Strings
import Derived.WalkKit
import Derived.WalkLawsBesides
import Derived.WalkSpells
import Derived.Lib.Hide
import Derived.LoopTactic
import Derived.Lib.Repeat
import Derived.Laws.BitsAllLaws
import Derived.OwnWalk
import Derived.Test.YtajmdpndbfmdmaaDoorNuA
import Derived.Test.YtajmdpndbfmdmaaDoorFl
namespace Sp

/-- A digit of sixteen as a byte. -/
def hexb (n : Nat) : UInt8 := if n < 10 then UInt8.ofNat (48 + n) else UInt8.ofNat (87 + n)
/-- A byte, quoted. -/
def qb (c : UInt8) : List UInt8 :=
  if c.toNat = 34 ∨ c.toNat = 92 then [92, c] else if c.toNat = 10 then [92, 110] else if c.toNat = 9 then [92, 116] else if c.toNat = 13 then [92, 114]
  else if c.toNat < 32 ∨ 126 < c.toNat then [92, 120, hexb (c.toNat / 16), hexb (c.toNat % 16)] else [c]
def body (l : List UInt8) : List UInt8 := l.flatMap qb
def quoteL (l : List UInt8) : List UInt8 := 34 :: (body l ++ [34])

/-- The worth of a digit of sixteen. -/
def hexv (c : UInt8) : Option Nat := if 48 ≤ c.toNat ∧ c.toNat ≤ 57 then some (c.toNat - 48) else if 97 ≤ c.toNat ∧ c.toNat ≤ 102 then some (c.toNat - 87) else none

/-- What stands behind a backslash: the byte, and how long it is (0: nothing that may stand there). -/
def escX : List UInt8 → UInt8 × Nat
  | a :: b :: _ => match hexv a, hexv b with
    | some x, some y => (UInt8.ofNat (16 * x + y), 3)
    | _, _ => (0, 0)
  | _ => (0, 0)
def escL : List UInt8 → UInt8 × Nat
  | [] => (0, 0)
  | c :: r => if c.toNat = 92 ∨ c.toNat = 34 ∨ c.toNat = 39 then (c, 1) else if c.toNat = 110 then (10, 1) else if c.toNat = 116 then (9, 1)
    else if c.toNat = 114 then (13, 1) else if c.toNat = 120 then escX r else (0, 0)

/-- What stands between two quotes, read: the bytes, or the place that is wrong. -/
def plainF : Nat → List UInt8 → Nat → List UInt8 → Except Nat (List UInt8)
  | 0, _, _, acc => .ok acc
  | _ + 1, [], _, acc => .ok acc
  | n + 1, c :: t, i, acc =>
    if c.toNat = 92 then (if (escL t).2 = 0 then .error i else plainF n (t.drop (escL t).2) (i + 1 + (escL t).2) (acc ++ [(escL t).1]))
    else plainF n t (i + 1) (acc ++ [c])

theorem plainF_nil (n i : Nat) (acc : List UInt8) : plainF n [] i acc = .ok acc := by cases n <;> rfl

theorem byte_cases (P : Nat → Prop) (h : ∀ n, n < 256 → P n) (c : UInt8) : P c.toNat := h _ c.toNat_lt

theorem hex_ok : ∀ n, n < 256 → hexv (hexb (n / 16)) = some (n / 16) ∧ hexv (hexb (n % 16)) = some (n % 16) := by
  intro n hn
  have h : ∀ d, d < 16 → hexv (hexb d) = some d := by decide
  exact ⟨h _ (by omega), h _ (by omega)⟩

/-- ONE BYTE, QUOTED, IS READ AS IT WAS. -/
theorem step_qb (c : UInt8) (t : List UInt8) (n i : Nat) (acc : List UInt8) (hn : (qb c ++ t).length ≤ n) :
    ∃ m j, t.length ≤ m ∧ plainF n (qb c ++ t) i acc = plainF m t j (acc ++ [c]) := by
  have hlt := c.toNat_lt
  have eta : UInt8.ofNat c.toNat = c := UInt8.ofNat_toNat
  cases n with
  | zero =>
    have h : 0 < (qb c ++ t).length := by
      unfold qb; split
      · simp
      · split
        · simp
        · split
          · simp
          · split
            · simp
            · split <;> simp
    omega
  | succ n =>
    unfold qb at hn ⊢
    by_cases h1 : c.toNat = 34 ∨ c.toNat = 92
    · rw [if_pos h1] at hn ⊢
      refine ⟨n, i + 1 + 1, by simp at hn; omega, ?_⟩
      have he : escL (c :: t) = (c, 1) := by rw [escL, if_pos (by omega)]
      show plainF (n + 1) (92 :: c :: t) i acc = _
      rw [plainF, if_pos (by decide), he]
      simp
    · rw [if_neg h1] at hn ⊢
      by_cases h2 : c.toNat = 10
      · rw [if_pos h2] at hn ⊢
        refine ⟨n, i + 1 + 1, by simp at hn; omega, ?_⟩
        have hc : c = 10 := by rw [← eta, h2]; rfl
        show plainF (n + 1) (92 :: 110 :: t) i acc = _
        rw [plainF, if_pos (by decide), show escL (110 :: t) = (10, 1) from rfl, hc]
        simp
      · rw [if_neg h2] at hn ⊢
        by_cases h3 : c.toNat = 9
        · rw [if_pos h3] at hn ⊢
          refine ⟨n, i + 1 + 1, by simp at hn; omega, ?_⟩
          have hc : c = 9 := by rw [← eta, h3]; rfl
          show plainF (n + 1) (92 :: 116 :: t) i acc = _
          rw [plainF, if_pos (by decide), show escL (116 :: t) = (9, 1) from rfl, hc]
          simp
        · rw [if_neg h3] at hn ⊢
          by_cases h4 : c.toNat = 13
          · rw [if_pos h4] at hn ⊢
            refine ⟨n, i + 1 + 1, by simp at hn; omega, ?_⟩
            have hc : c = 13 := by rw [← eta, h4]; rfl
            show plainF (n + 1) (92 :: 114 :: t) i acc = _
            rw [plainF, if_pos (by decide), show escL (114 :: t) = (13, 1) from rfl, hc]
            simp
          · rw [if_neg h4] at hn ⊢
            by_cases h5 : c.toNat < 32 ∨ 126 < c.toNat
            · rw [if_pos h5] at hn ⊢
              refine ⟨n, i + 1 + 3, by simp at hn; omega, ?_⟩
              obtain ⟨x1, x2⟩ := hex_ok c.toNat hlt
              show plainF (n + 1) (92 :: 120 :: hexb (c.toNat / 16) :: hexb (c.toNat % 16) :: t) i acc = _
              have he : escL (120 :: hexb (c.toNat / 16) :: hexb (c.toNat % 16) :: t) = (c, 3) := by
                show escX (hexb (c.toNat / 16) :: hexb (c.toNat % 16) :: t) = _
                rw [escX, x1, x2]
                show (UInt8.ofNat (16 * (c.toNat / 16) + c.toNat % 16), 3) = _
                rw [show 16 * (c.toNat / 16) + c.toNat % 16 = c.toNat from by omega, eta]
              rw [plainF, if_pos (by decide), he]
              simp
            · rw [if_neg h5] at hn ⊢
              refine ⟨n, i + 1, by simp at hn; omega, ?_⟩
              show plainF (n + 1) (c :: t) i acc = _
              rw [plainF, if_neg (by omega)]

theorem plain_body (l : List UInt8) : ∀ (n i : Nat) (acc : List UInt8), (body l).length ≤ n → plainF n (body l) i acc = .ok (acc ++ l) := by
  induction l with
  | nil => intro n i acc _; show plainF n [] i acc = _; rw [plainF_nil]; simp
  | cons c l ih =>
    intro n i acc hn
    have e : body (c :: l) = qb c ++ body l := by unfold body; rw [List.flatMap_cons]
    rw [e] at hn ⊢
    obtain ⟨m, j, hm, h⟩ := step_qb c (body l) n i acc hn
    rw [h, ih m j _ hm]
    simp

theorem hexb_bounds : ∀ d, d < 16 → 32 ≤ (hexb d).toNat ∧ (hexb d).toNat ≤ 126 := by decide

/-- What is quoted can be shown. -/
theorem qb_bounds (c u : UInt8) (h : u ∈ qb c) : 32 ≤ u.toNat ∧ u.toNat ≤ 126 := by
  have hlt := c.toNat_lt
  unfold qb at h
  by_cases h1 : c.toNat = 34 ∨ c.toNat = 92
  · rw [if_pos h1] at h
    simp only [List.mem_cons, List.not_mem_nil, or_false] at h
    rcases h with rfl | rfl
    · decide
    · omega
  · rw [if_neg h1] at h
    by_cases h2 : c.toNat = 10
    · rw [if_pos h2] at h
      simp only [List.mem_cons, List.not_mem_nil, or_false] at h
      rcases h with rfl | rfl <;> decide
    · rw [if_neg h2] at h
      by_cases h3 : c.toNat = 9
      · rw [if_pos h3] at h
        simp only [List.mem_cons, List.not_mem_nil, or_false] at h
        rcases h with rfl | rfl <;> decide
      · rw [if_neg h3] at h
        by_cases h4 : c.toNat = 13
        · rw [if_pos h4] at h
          simp only [List.mem_cons, List.not_mem_nil, or_false] at h
          rcases h with rfl | rfl <;> decide
        · rw [if_neg h4] at h
          by_cases h5 : c.toNat < 32 ∨ 126 < c.toNat
          · rw [if_pos h5] at h
            simp only [List.mem_cons, List.not_mem_nil, or_false] at h
            rcases h with rfl | rfl | rfl | rfl
            · decide
            · decide
            · exact hexb_bounds _ (by omega)
            · exact hexb_bounds _ (by omega)
          · rw [if_neg h5] at h
            simp only [List.mem_cons, List.not_mem_nil, or_false] at h
            subst h; omega

theorem quoteL_bounds (l : List UInt8) (u : UInt8) (h : u ∈ quoteL l) : 32 ≤ u.toNat ∧ u.toNat ≤ 126 := by
  unfold quoteL body at h
  simp only [List.mem_cons, List.mem_append, List.mem_flatMap, List.not_mem_nil, or_false] at h
  rcases h with rfl | ⟨c, _, hc⟩ | rfl
  · decide
  · exact qb_bounds c u hc
  · decide

theorem qb_length (c : UInt8) : (qb c).length ≤ 4 := by
  unfold qb
  split
  · simp
  · split
    · simp
    · split
      · simp
      · split
        · simp
        · split <;> simp
theorem body_length (l : List UInt8) : (body l).length ≤ 4 * l.length := by
  induction l with
  | nil => simp [body]
  | cons c l ih =>
    have e : body (c :: l) = qb c ++ body l := by unfold body; rw [List.flatMap_cons]
    rw [e, List.length_append, List.length_cons]
    have := qb_length c
    omega
theorem body_snoc (l : List UInt8) (c : UInt8) : body (l ++ [c]) = body l ++ qb c := by
  unfold body; rw [List.flatMap_append]; simp

theorem escX_snd (r : List UInt8) : (escX r).2 ≤ r.length + 1 ∧ (escX r).2 ≤ 3 := by
  cases r with
  | nil => simp [escX]
  | cons a r =>
    cases r with
    | nil => simp [escX]
    | cons b r =>
      rw [escX]
      cases hexv a <;> cases hexv b <;> simp

theorem escL_snd (t : List UInt8) : (escL t).2 ≤ t.length ∧ (escL t).2 ≤ 3 := by
  cases t with
  | nil => simp [escL]
  | cons c r =>
    have := escX_snd r
    rw [escL]
    by_cases h1 : c.toNat = 92 ∨ c.toNat = 34 ∨ c.toNat = 39
    · rw [if_pos h1]; simp
    · rw [if_neg h1]
      by_cases h2 : c.toNat = 110
      · rw [if_pos h2]; simp
      · rw [if_neg h2]
        by_cases h3 : c.toNat = 116
        · rw [if_pos h3]; simp
        · rw [if_neg h3]
          by_cases h4 : c.toNat = 114
          · rw [if_pos h4]; simp
          · rw [if_neg h4]
            by_cases h5 : c.toNat = 120
            · rw [if_pos h5]; simpa using this
            · rw [if_neg h5]; simp

/-- How many bytes come of it: no more than stood there. -/
theorem plainF_length : ∀ (n : Nat) (l : List UInt8) (i : Nat) (acc out : List UInt8), plainF n l i acc = .ok out → out.length ≤ acc.length + l.length := by
  intro n
  induction n with
  | zero => intro l i acc out h; simp [plainF] at h; subst h; omega
  | succ n ih =>
    intro l i acc out h
    cases l with
    | nil => rw [plainF_nil] at h; cases h; simp
    | cons c t =>
      rw [plainF] at h
      split at h
      · split at h
        · cases h
        · rename_i h2
          have := ih _ _ _ _ h
          simp at this ⊢; omega
      · have := ih _ _ _ _ h
        simp at this ⊢; omega

theorem plainF_place : ∀ (n : Nat) (l : List UInt8) (i : Nat) (acc : List UInt8) (p : Nat), plainF n l i acc = .error p → i ≤ p ∧ p < i + l.length := by
  intro n
  induction n with
  | zero => intro l i acc p h; simp [plainF] at h
  | succ n ih =>
    intro l i acc p h
    cases l with
    | nil => rw [plainF_nil] at h; cases h
    | cons c t =>
      rw [plainF] at h
      split at h
      · split at h
        · cases h; simp
        · rename_i h2
          have h3 := ih _ _ _ _ h
          have h4 := (escL_snd t).1
          simp at h3 ⊢; omega
      · have := ih _ _ _ _ h
        simp at this ⊢; omega
end Sp
namespace Go.Proofs.YtajmdpndbfmdmaaDoor
open Go Go.RowKit

theorem bld_size : (Tryd.prog.info? 86).map (·.size) = some 2 := by kernel_rfl
theorem bld_lies : liesAt Tryd.prog Tryd.prog.depth 86 (2 / Tryd.prog.cellsOf 86) 0 86 1 = true := by kernel_rfl
theorem byte_info : (Tryd.prog.info? 5).map (fun i => (i.zero, i.size, i.bytes)) = some (some (.int .u8 0), 1, 1) := by kernel_rfl

set_option maxHeartbeats 1000000 in
set_option maxRecDepth 100000 in
theorem check_used (b : Nat) (w : World) (h0 : w.cell? ⟨b, 0, none⟩ = some (.pointer (some ⟨b, 0, none⟩))) :
    Calls Tryd.prog 132 #[.pointer (some ⟨b, 0, none⟩)] w fun e w' => e = .returned (.tuple #[]) ∧ w = w' := by
  obtain ⟨j, hj, _⟩ := Option.map_eq_some_iff.1 bld_size
  go_enter Tryd.func132, Tryd.ntmps132
  go_wp2
  rw [Lib.run_neq_ptr_same w _ Tryd.underlying83 hj]
  go_wp2
  go_end0
  exact ⟨rfl, rfl⟩

set_option maxHeartbeats 1000000 in
set_option maxRecDepth 100000 in
theorem check_fresh (b : Nat) (w : World) (h0 : w.cell? ⟨b, 0, none⟩ = some (.pointer none)) (hsh : w.shape? b = some (86, 2)) (hfz : w.frozen? ⟨b, 0, none⟩ = false) :
    Calls Tryd.prog 132 #[.pointer (some ⟨b, 0, none⟩)] w fun e w' => e = .returned (.tuple #[]) ∧ w.setCell ⟨b, 0, none⟩ (.pointer (some ⟨b, 0, none⟩)) = w' := by
  obtain ⟨j, hj, hjs⟩ := Option.map_eq_some_iff.1 bld_size
  go_enter Tryd.func132, Tryd.ntmps132
  go_wp2
  rw [Lib.run_to_unsafe w ⟨b, 0, none⟩ Tryd.underlying83 Tryd.underlying145 hj (by rw [hjs]; decide) hsh (Nat.zero_lt_succ 1)]
  simp only [Result.andThen]
  rw [Oper.upon_value]
  go_wp2
  rw [run_callFunc_extern Tryd.func162 (by kernel_rfl) (by kernel_rfl) (by kernel_rfl) (e := Extern.AbiNoEscape.same) (by kernel_rfl)]
  rw [Lib.run_noEscape]
  simp only [Result.andThen]
  rw [Oper.upon_value]
  go_wp2
  rw [Lib.run_from_unsafe w ⟨b, 0, none⟩ Tryd.underlying145 Tryd.underlying83 hj hsh bld_lies]
  simp only [Result.andThen]
  rw [Oper.upon_value]
  go_wp2
  go_end0
  exact ⟨rfl, rfl⟩

/-- A builder of this program that holds the bytes bs. -/
abbrev IsB (B b : Nat) (bs : List Value) (w : World) : Prop := Lib.IsBuilder 86 5 B b bs w

theorem check_any (B b : Nat) (bs : List Value) (w : World) (h : IsB B b bs w) :
    Calls Tryd.prog 132 #[.pointer (some ⟨b, 0, none⟩)] w fun e w' => e = .returned (.tuple #[]) ∧ (Lib.BuilderAt 86 5 B b (.pointer (some ⟨b, 0, none⟩)) bs w' ∧ Below B w w') := by
  rcases h with h | h
  · refine (check_fresh b w h.cell0 h.shape h.frozen0).mono ?_
    rintro e w' ⟨rfl, rfl⟩
    exact ⟨rfl, h.used _, (Below.refl B w).setCell (p := ⟨b, 0, none⟩) h.1 _⟩
  · refine (check_used b w h.cell0).mono ?_
    rintro e w' ⟨rfl, rfl⟩
    exact ⟨rfl, h, Below.refl B _⟩

set_option maxHeartbeats 2000000 in
set_option maxRecDepth 100000 in
theorem writeByte_any (B b : Nat) (bs : List Value) (c : Int) (w : World) (h : IsB B b bs w) (hlen : bs.length + 1 ≤ 140737488355328) (hBw : B ≤ w.heap.size) :
    Calls Tryd.prog 90 #[.pointer (some ⟨b, 0, none⟩), .int .u8 c] w fun e w' => e = .returned .nilIface ∧ IsB B b (bs ++ [.int .u8 c]) w' ∧ Below B w w' := by
  obtain ⟨i0, hi, hz0, hz1, hz2⟩ := info_parts byte_info
  go_enter Tryd.func90, Tryd.ntmps90
  go_wp2_with (go_at_call 132; refine (check_any B b bs _ h).mono ?_)
  rintro e w1 ⟨rfl, h1, hb1⟩
  obtain ⟨hB, v, hbk, hown, hne⟩ := h1
  have c0 : w1.cell? ⟨b, 0, none⟩ = some (.pointer (some ⟨b, 0, none⟩)) := by rw [Lib.cell_of_heap hbk]; rfl
  have c1 : w1.cell? ⟨b, 1, none⟩ = some v := by rw [Lib.cell_of_heap hbk]; rfl
  go_wp2_with (at_builtin; refine wpList_append_own _ rfl _ _ 84 rfl B 5 i0 (.int .u8 0) 1 1 Tryd.underlying84 hi hz0 hz1 hz2 rfl (by decide) _ _ _ rfl (hown.alloc _) ⟨w1.heap.size, 0, none⟩ 1 1 [.int .u8 c] rfl rfl ?c1 ?c2 ?c3 ?c4 ?c5 ?_)
  case c1 =>
    intro j u hj
    match j, hj with
    | 0, hj => simp at hj; subst hj; simp [Addr.add]
  case c2 => intro u hu; simp at hu; subst hu; rfl
  case c3 => unfold maxLen; omega
  case c4 => omega
  case c5 => have := hb1.size; simp; omega
  intro v' w2 hown' hgrow _
  have hlt : b < w1.heap.size := by
    rcases Nat.lt_or_ge b w1.heap.size with h' | h'
    · exact h'
    · simp [Array.getElem?_eq_none h'] at hbk
  have hb2 : w2.heap[b]? = some (.cells #[.pointer (some ⟨b, 0, none⟩), v] 86 (0, 0)) := by
    rw [hgrow.block b (by simp; omega) (fun e => hne e.symm), Lib.alloc_old w1 _ b hlt]
    exact hbk
  have d0 : w2.cell? ⟨b, 0, none⟩ = some (.pointer (some ⟨b, 0, none⟩)) := by rw [Lib.cell_of_heap hb2]; rfl
  have d1 : w2.cell? ⟨b, 1, none⟩ = some v := by rw [Lib.cell_of_heap hb2]; rfl
  have f1 : w2.frozen? ⟨b, 1, none⟩ = false := Lib.frozen_of_heap hb2 1
  obtain ⟨g, cap, rfl⟩ : ∃ g cap, v' = .slice (some ⟨g, 0, none⟩) (bs.length + 1) cap := by
    rcases hown'.2 with ⟨_, h0⟩ | ⟨g, cap, cur, hv, _⟩
    · omega
    · exact ⟨g, cap, hv⟩
  go_wp2
  go_ret
  refine ⟨rfl, .inr ?_, ?_⟩
  · exact Lib.BuilderAt.put (T := 86) (e := 5) hB hb2 (bs' := bs ++ [.int .u8 c]) (by simpa using hown') (by decide)
  · exact ((hb1.alloc (by have := hb1.size; omega) _).grown hgrow (by have := hb1.size; simp; omega) (fun k hk => (hown.lt k hk).1)).setCell (p := ⟨b, 1, none⟩) hB _

set_option maxHeartbeats 2000000 in
set_option maxRecDepth 100000 in
theorem writeString_any (B b : Nat) (bs : List Value) (s : ByteArray) (w : World) (h : IsB B b bs w) (hlen : bs.length + s.size ≤ 140737488355328) (hBw : B ≤ w.heap.size) :
    Calls Tryd.prog 91 #[.pointer (some ⟨b, 0, none⟩), .string s] w fun e w' => e = .returned (.tuple #[.int .i64 s.size, .nilIface]) ∧ IsB B b (bs ++ Lib.strCells s) w' ∧ Below B w w' := by
  obtain ⟨i0, hi, hz0, hz1, hz2⟩ := info_parts byte_info
  go_enter Tryd.func91, Tryd.ntmps91
  go_wp2_with (go_at_call 132; refine (check_any B b bs _ h).mono ?_)
  rintro e w1 ⟨rfl, h1, hb1⟩
  obtain ⟨hB, v, hbk, hown, hne⟩ := h1
  have c0 : w1.cell? ⟨b, 0, none⟩ = some (.pointer (some ⟨b, 0, none⟩)) := by rw [Lib.cell_of_heap hbk]; rfl
  have c1 : w1.cell? ⟨b, 1, none⟩ = some v := by rw [Lib.cell_of_heap hbk]; rfl
  go_wp2_with (at_builtin; refine Lib.wpList_append_own_string _ rfl _ _ 84 9 rfl B 5 i0 Tryd.underlying84 Tryd.underlying9 hi hz0 hz1 hz2 _ _ _ rfl hown s rfl ?c3 ?c4 ?c5 ?_)
  case c3 => unfold maxLen; omega
  case c4 => omega
  case c5 => have := hb1.size; omega
  intro v' w2 hown' hgrow _
  have hlt : b < w1.heap.size := by
    rcases Nat.lt_or_ge b w1.heap.size with h' | h'
    · exact h'
    · simp [Array.getElem?_eq_none h'] at hbk
  have hb2 : w2.heap[b]? = some (.cells #[.pointer (some ⟨b, 0, none⟩), v] 86 (0, 0)) := by
    rw [hgrow.block b hlt (fun e => hne e.symm)]
    exact hbk
  have d0 : w2.cell? ⟨b, 0, none⟩ = some (.pointer (some ⟨b, 0, none⟩)) := by rw [Lib.cell_of_heap hb2]; rfl
  have d1 : w2.cell? ⟨b, 1, none⟩ = some v := by rw [Lib.cell_of_heap hb2]; rfl
  have f1 : w2.frozen? ⟨b, 1, none⟩ = false := Lib.frozen_of_heap hb2 1
  obtain ⟨ao, n', cap, rfl⟩ : ∃ ao n' cap, v' = .slice ao n' cap := by
    rcases hown'.2 with ⟨hv, _⟩ | ⟨g, cap, cur, hv, _⟩
    · exact ⟨_, _, _, hv⟩
    · exact ⟨_, _, _, hv⟩
  go_wp2
  go_ret2
  refine ⟨rfl, .inr ?_, ?_⟩
  · exact Lib.BuilderAt.put (T := 86) (e := 5) hB hb2 (bs' := bs ++ Lib.strCells s) (by simpa [Lib.strCells_length] using hown') (by decide)
  · exact (hb1.grown hgrow (by have := hb1.size; omega) (fun k hk => (hown.lt k hk).1)).setCell (p := ⟨b, 1, none⟩) hB _
end Go.Proofs.YtajmdpndbfmdmaaDoor
namespace Go.Proofs.YtajmdpndbfmdmaaDoor
open Go Go.RowKit

def joinS (a b : ByteArray) : ByteArray × Int := if a.size + b.size > 4096 then (ByteArray.empty, 20) else (a ++ b, 0)

theorem join_any (a b : ByteArray) (w : World) (ha : a.size ≤ 9000) (hb : b.size ≤ 9000) :
    Calls Tryd.prog 36 #[.string a, .string b] w fun e w' => e = .returned (.tuple #[.string (joinS a b).1, .int .i64 (joinS a b).2]) ∧ w = w' := by
  unfold joinS
  by_cases c : a.size + b.size > 4096
  · rw [if_pos c]
    go_enter Tryd.func36, Tryd.ntmps36
    go_wp2
    go_ret2
    exact ⟨rfl, rfl⟩
  · rw [if_neg c]
    go_enter Tryd.func36, Tryd.ntmps36
    go_wp2
    go_ret2
    exact ⟨rfl, rfl⟩

def strOf (l : List UInt8) : ByteArray := ⟨l.toArray⟩
theorem strOf_data (s : ByteArray) : strOf s.data.toList = s := rfl
theorem strOf_list (l : List UInt8) : (strOf l).data.toList = l := rfl
theorem strOf_inj {X : ByteArray} {l : List UInt8} (h : X.data.toList = l) : X = strOf l := by rw [← h, strOf_data]
theorem size_list (s : ByteArray) : s.data.toList.length = s.size := by simp
theorem append_list (a b : ByteArray) : (a ++ b).data.toList = a.data.toList ++ b.data.toList := by simp

def repeatS (s : ByteArray) (n : Int) : ByteArray × Int :=
  if n < 0 then (ByteArray.empty, 2) else if s.size = 0 then (ByteArray.empty, 0) else if n * s.size > 4096 then (ByteArray.empty, 20) else (strOf (Lib.repeatL s.data.toList n.toNat), 0)

theorem empty_of {s : ByteArray} (h : s.size = 0) : s = ByteArray.empty := by
  apply ByteArray.ext; apply Array.eq_empty_of_size_eq_zero; exact h
theorem isEmpty_of {s : ByteArray} (h : s.size ≠ 0) : s.toList.isEmpty = false := by
  rw [Lib.toList_data]
  cases h' : s.data.toList with
  | nil => exact absurd (by rw [← size_list, h']; rfl) h
  | cons => rfl

theorem repeat_any (s : ByteArray) (n : Int) (w : World) (hs : s.size ≤ 9000) (hn0 : -9223372036854775808 ≤ n) (hn1 : n ≤ 9223372036854775807) :
    Calls Tryd.prog 61 #[.string s, .int .i64 n] w fun e w' => e = .returned (.tuple #[.string (repeatS s n).1, .int .i64 (repeatS s n).2]) ∧ Below w.heap.size w w' := by
  unfold repeatS
  by_cases c1 : n < 0
  · rw [if_pos c1]
    go_enter Tryd.func61, Tryd.ntmps61
    go_wp2
    go_ret2
    exact ⟨rfl, Below.refl _ _⟩
  · rw [if_neg c1]
    by_cases c2 : s.size = 0
    · rw [if_pos c2]
      obtain rfl := empty_of c2
      clear c2
      go_enter Tryd.func61, Tryd.ntmps61
      go_wp2
      go_ret2
      exact ⟨rfl, Below.refl _ _⟩
    · rw [if_neg c2]
      have he := isEmpty_of c2
      have hp : 1 ≤ (s.size : Int) := by omega
      by_cases c3 : n * s.size > 4096
      · rw [if_pos c3]
        have h3 : 4096 / (s.size : Int) < n := Int.ediv_lt_of_lt_mul (by omega) c3
        clear c3 c2
        go_enter Tryd.func61, Tryd.ntmps61
        go_wp2
        go_ret2
        exact ⟨rfl, Below.refl _ _⟩
      · rw [if_neg c3]
        have h3 : ¬ 4096 / (s.size : Int) < n := by
          have := (Int.le_ediv_iff_mul_le (a := n) (b := 4096) (c := (s.size : Int)) (by omega)).2 (by omega)
          omega
        have hlen : s.size * n.toNat ≤ 140737488355328 := by
          have h4 : ((s.size * n.toNat : Nat) : Int) = n * s.size := by
            rw [Int.natCast_mul, Int.toNat_of_nonneg (by omega), Int.mul_comm]
          omega
        have hR := Tryd.strings_Repeat s n.toNat
        rw [Int.toNat_of_nonneg (by omega)] at hR
        have hR' := Lib.hid (fun w' => hR w' (by omega) hlen)
        clear hR c3 c2 hlen
        go_enter Tryd.func61, Tryd.ntmps61
        go_wp2_with (go_at_call 115; refine (hR'.out _).mono ?_; rintro e w' ⟨rfl, hb⟩)
        go_ret2
        exact ⟨rfl, hb⟩

end Go.Proofs.YtajmdpndbfmdmaaDoor
namespace Go.Proofs.YtajmdpndbfmdmaaDoor
open Go Go.RowKit

theorem byteCells_snoc (l : List UInt8) (u : UInt8) : Lib.byteCells (l ++ [u]) = Lib.byteCells l ++ [.int .u8 u.toNat] := by simp [Lib.byteCells]
theorem byteCells_str (l : List UInt8) (s : ByteArray) : Lib.byteCells (l ++ s.data.toList) = Lib.byteCells l ++ Lib.strCells s := by simp [Lib.byteCells, Lib.strCells]

/-- A builder that holds these bytes. -/
def Bl (B b : Nat) (l : List UInt8) (w : World) : Prop := IsB B b (Lib.byteCells l) w

theorem wByte (B b : Nat) (l : List UInt8) (u : UInt8) (w : World) (h : Bl B b l w) (hlen : l.length + 1 ≤ 140737488355328) (hBw : B ≤ w.heap.size) :
    Calls Tryd.prog 90 #[.pointer (some ⟨b, 0, none⟩), .int .u8 u.toNat] w fun e w' => e = .returned .nilIface ∧ Bl B b (l ++ [u]) w' ∧ Below B w w' := by
  refine (writeByte_any B b (Lib.byteCells l) u.toNat w h (by rw [Lib.byteCells_length]; exact hlen) hBw).mono fun e w' ⟨h1, h2, h3⟩ => ⟨h1, ?_, h3⟩
  unfold Bl; rw [byteCells_snoc]; exact h2

theorem wStr (B b : Nat) (l : List UInt8) (s : ByteArray) (w : World) (h : Bl B b l w) (hlen : l.length + s.size ≤ 140737488355328) (hBw : B ≤ w.heap.size) :
    Calls Tryd.prog 91 #[.pointer (some ⟨b, 0, none⟩), .string s] w fun e w' => e = .returned (.tuple #[.int .i64 s.size, .nilIface]) ∧ Bl B b (l ++ s.data.toList) w' ∧ Below B w w' := by
  refine (writeString_any B b (Lib.byteCells l) s w h (by rw [Lib.byteCells_length]; exact hlen) hBw).mono fun e w' ⟨h1, h2, h3⟩ => ⟨h1, ?_, h3⟩
  unfold Bl; rw [byteCells_str]; exact h2

/-- A new builder. -/
theorem bl_new (w : World) : Bl w.heap.size w.heap.size [] (w.alloc (.cells #[.pointer none, .slice none 0 0] 86)) :=
  Or.inl ⟨Nat.le_refl _, .slice none 0 0, heap_alloc_new w _, World.ownsRow_nil _ _ _ _, by simp [Value.ownBlock]⟩

/-- A builder that this call has made and that holds l: and what lay there before is as it was. -/
def Bw (w : World) (l : List UInt8) (w' : World) : Prop := Bl w.heap.size w.heap.size l w' ∧ Below w.heap.size w w'

theorem bw_new (w : World) : Bw w [] (w.alloc (.cells #[.pointer none, .slice none 0 0] 86)) :=
  ⟨bl_new w, (Below.refl _ _).alloc (Nat.le_refl _) _⟩

theorem bwByte {w : World} {l : List UInt8} {w1 : World} (h : Hid (Bw w l w1)) (u : UInt8) (hlen : l.length ≤ 1000000) :
    Calls Tryd.prog 90 #[.pointer (some ⟨w.heap.size, 0, none⟩), .int .u8 u.toNat] w1 fun e w' => e = .returned .nilIface ∧ Hid (Bw w (l ++ [u]) w') :=
  (wByte _ _ l u w1 h.out.1 (by omega) h.out.2.size).mono fun _ _ ⟨h1, h2, h3⟩ => ⟨h1, Lib.hid ⟨h2, h.out.2.trans h3⟩⟩

theorem bwStr {w : World} {l : List UInt8} {w1 : World} (h : Hid (Bw w l w1)) (s : ByteArray) (hlen : l.length ≤ 1000000) (hs : s.size ≤ 1000000) :
    Calls Tryd.prog 91 #[.pointer (some ⟨w.heap.size, 0, none⟩), .string s] w1 fun e w' => e = .returned (.tuple #[.int .i64 s.size, .nilIface]) ∧ Hid (Bw w (l ++ s.data.toList) w') :=
  (wStr _ _ l s w1 h.out.1 (by omega) h.out.2.size).mono fun _ _ ⟨h1, h2, h3⟩ => ⟨h1, Lib.hid ⟨h2, h.out.2.trans h3⟩⟩

theorem sixteen_any (d : Nat) (w : World) (hd : d < 16) :
    Calls Tryd.prog 114 #[.int .u8 d] w fun e w' => e = .returned (.int .u8 (Sp.hexb d).toNat) ∧ w = w' := by
  have e : ((Sp.hexb d).toNat : Int) = if d < 10 then 48 + (d : Int) else 97 + (d : Int) - 10 := by
    have : ∀ d, d < 16 → ((Sp.hexb d).toNat : Int) = if d < 10 then 48 + (d : Int) else 97 + (d : Int) - 10 := by decide
    exact this d hd
  have he := Lib.hid e
  clear e
  by_cases c : (d : Int) < 10
  · go_enter Tryd.func114, Tryd.ntmps114
    go_wp2
    go_ret
    exact ⟨by rw [he.out, if_pos (by omega)]; rfl, rfl⟩
  · go_enter Tryd.func114, Tryd.ntmps114
    go_wp2
    go_ret
    exact ⟨by rw [he.out, if_neg (by omega)]; rfl, rfl⟩

theorem take_snoc (s : ByteArray) (k : Nat) (h : k < s.size) : s.data.toList.take (k + 1) = s.data.toList.take k ++ [s[k]'h] := by
  have h' : k < s.data.toList.length := by rw [size_list]; exact h
  rw [List.take_succ_eq_append_getElem h']
  congr 2

theorem take_all (s : ByteArray) (k : Nat) (h : ¬ (k : Int) < s.size) : s.data.toList.take k = s.data.toList := List.take_of_length_le (by rw [size_list]; omega)

theorem q_round {s : ByteArray} {w w2 : World} {k : Nat} {X L : List UInt8} {u : UInt8} (hq : Hid (34 :: Sp.body (s.data.toList.take (k + 1)) = X ++ Sp.qb u)) (c : (k : Int) < s.size)
    (hqb : Hid (Sp.qb u = L)) (H2 : Hid (Bw w (X ++ L) w2)) :
    (∃ k1 : Nat, k1 ≤ s.size ∧ Value.int .i64 ((k : Int) + 1) = Value.int .i64 k1 ∧ Hid (Bw w (34 :: Sp.body (s.data.toList.take k1)) w2)) ∧
    ((s.size : Int) - intOf (Value.int .i64 ((k : Int) + 1))).toNat < ((s.size : Int) - intOf (Value.int .i64 (k : Int))).toNat := by
  refine ⟨⟨k + 1, by omega, by simp, ?_⟩, by simp [intOf]; omega⟩
  rw [hq.out, hqb.out]
  exact H2

theorem app2 {w w2 : World} {X : List UInt8} {a b : List UInt8} (h : Hid (Bw w (X ++ a ++ b) w2)) : Hid (Bw w (X ++ (a ++ b)) w2) := by
  rw [← List.append_assoc]; exact h

theorem quote_any (s : ByteArray) (w : World) (hs : s.size ≤ 70000) :
    Calls Tryd.prog 60 #[.string s] w fun e w' => e = .returned (.string (strOf (Sp.quoteL s.data.toList))) ∧ Below w.heap.size w w' := by
  go_enter Tryd.func60, Tryd.ntmps60
  go_wp2_with fail
  refine (bwByte (Lib.hid (bw_new w)) 34 (by decide)).mono ?_
  rintro e w1 ⟨rfl, H1⟩
  go_wp2_with fail
  go_loopw [9] (fun i wr => ∃ k : Nat, k ≤ s.size ∧ i = .int .i64 k ∧ Hid (Bw w (34 :: Sp.body (s.data.toList.take k)) wr)) (fun i _ => ((s.size : Int) - intOf i).toNat)
  case atStart => exact ⟨0, by omega, rfl, H1⟩
  case round =>
    obtain ⟨k, hk, rfl, H⟩ := hrel
    have hlen : (34 :: Sp.body (s.data.toList.take k)).length ≤ 300000 := by
      have := Sp.body_length (s.data.toList.take k)
      rw [List.length_take] at this
      simp; omega
    by_cases c : (k : Int) < s.size
    · obtain ⟨u, hu⟩ : ∃ u, u = s[k]'(by omega) := ⟨_, rfl⟩
      have hq : (34 :: Sp.body (s.data.toList.take (k + 1))) = (34 :: Sp.body (s.data.toList.take k)) ++ Sp.qb u := by
        rw [take_snoc s k (by omega), ← hu, Sp.body_snoc]; rfl
      have hu' := hu.symm
      clear hu
      obtain ⟨X, hX⟩ : ∃ X, X = (34 :: Sp.body (s.data.toList.take k)) := ⟨_, rfl⟩
      rw [← hX] at H hq hlen
      have hq' := Lib.hid hq
      have hlen' := Lib.hid hlen
      have hlt := u.toNat_lt
      clear hq hlen hX
      by_cases c1 : u.toNat = 34 ∨ u.toNat = 92
      · have hqb' := Lib.hid (show Sp.qb u = [92] ++ [u] from by unfold Sp.qb; rw [if_pos c1]; rfl)
        by_cases c0 : u.toNat = 34
        · have d1 : ((u.toNat : Int) == 34) = true := by simp; omega
          clear c1 c0
          go_wp2_with fail
          refine (bwByte H 92 (by have := hlen'.out; omega)).mono ?_
          rintro e w2 ⟨rfl, H2⟩
          go_wp2_with fail
          refine (bwByte H2 u (by have := hlen'.out; simp; omega)).mono ?_
          rintro e w3 ⟨rfl, H3⟩
          go_wp2_with fail
          exact q_round hq' c hqb' (app2 H3)
        · have d1 : ((u.toNat : Int) == 34) = false := by simp; omega
          have d2 : ((u.toNat : Int) == 92) = true := by simp; omega
          clear c1 c0
          go_wp2_with fail
          refine (bwByte H 92 (by have := hlen'.out; omega)).mono ?_
          rintro e w2 ⟨rfl, H2⟩
          go_wp2_with fail
          refine (bwByte H2 u (by have := hlen'.out; simp; omega)).mono ?_
          rintro e w3 ⟨rfl, H3⟩
          go_wp2_with fail
          exact q_round hq' c hqb' (app2 H3)
      · have d1 : ((u.toNat : Int) == 34) = false := by simp; omega
        have d2 : ((u.toNat : Int) == 92) = false := by simp; omega
        by_cases c2 : u.toNat = 10
        · have d3 : ((u.toNat : Int) == 10) = true := by simp; omega
          have hqb' := Lib.hid (show Sp.qb u = [92, 110] from by unfold Sp.qb; rw [if_neg c1, if_pos c2])
          clear c1 c2
          go_wp2_with fail
          refine (bwStr H ⟨#[92, 110]⟩ (by have := hlen'.out; omega) (by decide)).mono ?_
          rintro e w2 ⟨rfl, H2⟩
          go_wp2_with fail
          exact q_round hq' c hqb' H2
        · have d3 : ((u.toNat : Int) == 10) = false := by simp; omega
          by_cases c3 : u.toNat = 9
          · have d4 : ((u.toNat : Int) == 9) = true := by simp; omega
            have hqb' := Lib.hid (show Sp.qb u = [92, 116] from by unfold Sp.qb; rw [if_neg c1, if_neg c2, if_pos c3])
            clear c1 c2 c3
            go_wp2_with fail
            refine (bwStr H ⟨#[92, 116]⟩ (by have := hlen'.out; omega) (by decide)).mono ?_
            rintro e w2 ⟨rfl, H2⟩
            go_wp2_with fail
            exact q_round hq' c hqb' H2
          · have d4 : ((u.toNat : Int) == 9) = false := by simp; omega
            by_cases c4 : u.toNat = 13
            · have d5 : ((u.toNat : Int) == 13) = true := by simp; omega
              have hqb' := Lib.hid (show Sp.qb u = [92, 114] from by unfold Sp.qb; rw [if_neg c1, if_neg c2, if_neg c3, if_pos c4])
              clear c1 c2 c3 c4
              go_wp2_with fail
              refine (bwStr H ⟨#[92, 114]⟩ (by have := hlen'.out; omega) (by decide)).mono ?_
              rintro e w2 ⟨rfl, H2⟩
              go_wp2_with fail
              exact q_round hq' c hqb' H2
            · have d5 : ((u.toNat : Int) == 13) = false := by simp; omega
              by_cases c5 : u.toNat < 32 ∨ 126 < u.toNat
              · have hqb' := Lib.hid (show Sp.qb u = [92, 120] ++ ([Sp.hexb (u.toNat / 16)] ++ [Sp.hexb (u.toNat % 16)]) from by unfold Sp.qb; rw [if_neg c1, if_neg c2, if_neg c3, if_neg c4, if_pos c5]; rfl)
                clear c1 c2 c3 c4
                obtain ⟨d, hd⟩ : ∃ d : Nat, d = u.toNat / 16 := ⟨_, rfl⟩
                obtain ⟨m, hm⟩ : ∃ m : Nat, m = u.toNat % 16 := ⟨_, rfl⟩
                rw [← hd, ← hm] at hqb'
                have hd16 : d < 16 := by omega
                have hm16 : m < 16 := by omega
                have hd' : (u.toNat : Int) / 16 = d := by omega
                have hm' : (u.toNat : Int) % 16 = m := by omega
                clear hd hm
                by_cases c6 : u.toNat < 32
                · have d6 : (u.toNat : Int) < 32 := by omega
                  clear c5 c6
                  go_wp2_with fail
                  refine (bwStr H ⟨#[92, 120]⟩ (by have := hlen'.out; omega) (by decide)).mono ?_
                  rintro e w2 ⟨rfl, H2⟩
                  go_wp2_with fail
                  refine (sixteen_any d w2 hd16).mono ?_
                  rintro e w2 ⟨rfl, rfl⟩
                  go_wp2_with fail
                  refine (bwByte H2 (Sp.hexb d) (by have := hlen'.out; simp; omega)).mono ?_
                  rintro e w3 ⟨rfl, H3⟩
                  go_wp2_with fail
                  refine (sixteen_any m w3 hm16).mono ?_
                  rintro e w3 ⟨rfl, rfl⟩
                  go_wp2_with fail
                  refine (bwByte H3 (Sp.hexb m) (by have := hlen'.out; simp; omega)).mono ?_
                  rintro e w4 ⟨rfl, H4⟩
                  go_wp2_with fail
                  exact q_round hq' c hqb' (app2 (app2 H4))
                · have d6 : ¬ (u.toNat : Int) < 32 := by omega
                  have d7 : 126 < (u.toNat : Int) := by omega
                  clear c5 c6
                  go_wp2_with fail
                  refine (bwStr H ⟨#[92, 120]⟩ (by have := hlen'.out; omega) (by decide)).mono ?_
                  rintro e w2 ⟨rfl, H2⟩
                  go_wp2_with fail
                  refine (sixteen_any d w2 hd16).mono ?_
                  rintro e w2 ⟨rfl, rfl⟩
                  go_wp2_with fail
                  refine (bwByte H2 (Sp.hexb d) (by have := hlen'.out; simp; omega)).mono ?_
                  rintro e w3 ⟨rfl, H3⟩
                  go_wp2_with fail
                  refine (sixteen_any m w3 hm16).mono ?_
                  rintro e w3 ⟨rfl, rfl⟩
                  go_wp2_with fail
                  refine (bwByte H3 (Sp.hexb m) (by have := hlen'.out; simp; omega)).mono ?_
                  rintro e w4 ⟨rfl, H4⟩
                  go_wp2_with fail
                  exact q_round hq' c hqb' (app2 (app2 H4))
              · have hqb' := Lib.hid (show Sp.qb u = [u] from by unfold Sp.qb; rw [if_neg c1, if_neg c2, if_neg c3, if_neg c4, if_neg c5])
                have d6 : ¬ (u.toNat : Int) < 32 := by omega
                have d7 : ¬ 126 < (u.toNat : Int) := by omega
                clear c1 c2 c3 c4 c5
                go_wp2_with fail
                refine (bwByte H u (by have := hlen'.out; omega)).mono ?_
                rintro e w2 ⟨rfl, H2⟩
                go_wp2_with fail
                exact q_round hq' c hqb' H2
    · rw [take_all s k c] at H hlen
      obtain ⟨X, hX⟩ : ∃ X, X = (34 :: Sp.body s.data.toList) := ⟨_, rfl⟩
      have hX' := Lib.hid (show Sp.quoteL s.data.toList = X ++ [34] from by rw [hX]; rfl)
      rw [← hX] at H hlen
      have hlen' := Lib.hid hlen
      clear hlen hX
      go_wp2_with fail
      refine (bwByte H 34 (by have := hlen'.out; omega)).mono ?_
      rintro e w2 ⟨rfl, H2⟩
      go_wp2_with fail
      refine (Tryd.Builder_String_any _ _ _ _ H2.out.1 H2.out.2.size).mono ?_
      rintro e w3 ⟨rfl, h3⟩
      have h3' := Lib.hid (H2.out.2.trans h3)
      clear h3
      go_wp2_with fail
      go_ret
      exact ⟨by rw [hX'.out]; rfl, h3'.out⟩
end Go.Proofs.YtajmdpndbfmdmaaDoor
namespace Go.Proofs.YtajmdpndbfmdmaaDoor
open Go Go.RowKit

theorem sign_list : ∀ d, d < 16 → ((⟨#[48, 49, 50, 51, 52, 53, 54, 55, 56, 57, 97, 98, 99, 100, 101, 102]⟩ : ByteArray).extract d (d + 1)) = ⟨#[Sp.hexb d]⟩ := by decide

theorem sign_any (d : Nat) (w : World) (hd : d < 16) :
    Calls Tryd.prog 134 #[.int .u8 d] w fun e w' => e = .returned (.string ⟨#[Sp.hexb d]⟩) ∧ w = w' := by
  have he := Lib.hid (sign_list d hd)
  go_enter Tryd.func134, Tryd.ntmps134
  go_wp2
  go_ret
  exact ⟨by rw [← he.out]; rfl, rfl⟩

theorem extract_one (s : ByteArray) (k : Nat) (h : k < s.size) : (s.extract k (k + 1)).data.toList = [s[k]'h] := by
  rw [Lib.extract_data]
  have h' : k < s.data.toList.length := by rw [size_list]; exact h
  rw [List.drop_eq_getElem_cons h', Nat.add_sub_cancel_left, List.take_succ_cons, List.take_zero]
  congr 1

theorem rq_round {s X Y : ByteArray} {k : Nat} {u : UInt8} (hq : Hid (34 :: Sp.body (s.data.toList.take (k + 1)) = X.data.toList ++ Sp.qb u)) (c : (k : Int) < s.size)
    (hY : Y.data.toList = X.data.toList ++ Sp.qb u) :
    (∃ (k1 : Nat) (X1 : ByteArray), k1 ≤ s.size ∧ Value.int .i64 ((k : Int) + 1) = Value.int .i64 k1 ∧ Value.string Y = Value.string X1 ∧ Hid (X1.data.toList = 34 :: Sp.body (s.data.toList.take k1))) ∧
    ((s.size : Int) - intOf (Value.int .i64 ((k : Int) + 1))).toNat < ((s.size : Int) - intOf (Value.int .i64 (k : Int))).toNat := by
  refine ⟨⟨k + 1, Y, by omega, by simp, rfl, ?_⟩, by simp [intOf]; omega⟩
  rw [hY, hq.out]
  exact Lib.hid rfl

theorem refQuote_any (s : ByteArray) (w : World) (hs : s.size ≤ 70000) :
    Calls Tryd.prog 95 #[.string s] w fun e w' => e = .returned (.string (strOf (Sp.quoteL s.data.toList))) ∧ w = w' := by
  go_enter Tryd.func95, Tryd.ntmps95
  go_wp2
  go_loop [3, 4] (fun o i => ∃ (k : Nat) (X : ByteArray), k ≤ s.size ∧ i = .int .i64 k ∧ o = .string X ∧ Hid (X.data.toList = 34 :: Sp.body (s.data.toList.take k))) (fun _ i => ((s.size : Int) - intOf i).toNat)
  case atStart => exact ⟨0, _, by omega, rfl, rfl, Lib.hid rfl⟩
  case round =>
    obtain ⟨k, X, hk, rfl, rfl, H⟩ := hrel
    have hlen : X.size ≤ 300000 := by
      have := Sp.body_length (s.data.toList.take k)
      rw [List.length_take] at this
      rw [← size_list, H.out]
      simp; omega
    by_cases c : (k : Int) < s.size
    · obtain ⟨u, hu⟩ : ∃ u, u = s[k]'(by omega) := ⟨_, rfl⟩
      have hq : (34 :: Sp.body (s.data.toList.take (k + 1))) = X.data.toList ++ Sp.qb u := by
        rw [H.out, take_snoc s k (by omega), ← hu, Sp.body_snoc]; rfl
      have hu' := hu.symm
      clear hu
      have hq' := Lib.hid hq
      have hlt := u.toNat_lt
      clear hq
      have hx := (Lib.hid (extract_one s k (by omega)))
      rw [hu'] at hx
      by_cases c1 : u.toNat = 34 ∨ u.toNat = 92
      · have hqb' := Lib.hid (show Sp.qb u = [92, u] from by unfold Sp.qb; rw [if_pos c1])
        by_cases c0 : u.toNat = 34
        · have d1 : ((u.toNat : Int) == 34) = true := by simp; omega
          clear c1 c0
          go_wp2
          exact rq_round hq' c (by rw [hqb'.out, append_list, append_list, hx.out]; simp)
        · have d1 : ((u.toNat : Int) == 34) = false := by simp; omega
          have d2 : ((u.toNat : Int) == 92) = true := by simp; omega
          clear c1 c0
          go_wp2
          exact rq_round hq' c (by rw [hqb'.out, append_list, append_list, hx.out]; simp)
      · have d1 : ((u.toNat : Int) == 34) = false := by simp; omega
        have d2 : ((u.toNat : Int) == 92) = false := by simp; omega
        by_cases c2 : u.toNat = 10
        · have d3 : ((u.toNat : Int) == 10) = true := by simp; omega
          have hqb' := Lib.hid (show Sp.qb u = [92, 110] from by unfold Sp.qb; rw [if_neg c1, if_pos c2])
          clear c1 c2
          go_wp2
          exact rq_round hq' c (by rw [hqb'.out, append_list])
        · have d3 : ((u.toNat : Int) == 10) = false := by simp; omega
          by_cases c3 : u.toNat = 9
          · have d4 : ((u.toNat : Int) == 9) = true := by simp; omega
            have hqb' := Lib.hid (show Sp.qb u = [92, 116] from by unfold Sp.qb; rw [if_neg c1, if_neg c2, if_pos c3])
            clear c1 c2 c3
            go_wp2
            exact rq_round hq' c (by rw [hqb'.out, append_list])
          · have d4 : ((u.toNat : Int) == 9) = false := by simp; omega
            by_cases c4 : u.toNat = 13
            · have d5 : ((u.toNat : Int) == 13) = true := by simp; omega
              have hqb' := Lib.hid (show Sp.qb u = [92, 114] from by unfold Sp.qb; rw [if_neg c1, if_neg c2, if_neg c3, if_pos c4])
              clear c1 c2 c3 c4
              go_wp2
              exact rq_round hq' c (by rw [hqb'.out, append_list])
            · have d5 : ((u.toNat : Int) == 13) = false := by simp; omega
              by_cases c5 : u.toNat < 32 ∨ 126 < u.toNat
              · have hqb' := Lib.hid (show Sp.qb u = [92, 120, Sp.hexb (u.toNat / 16), Sp.hexb (u.toNat % 16)] from by unfold Sp.qb; rw [if_neg c1, if_neg c2, if_neg c3, if_neg c4, if_pos c5])
                clear c1 c2 c3 c4
                obtain ⟨d, hd⟩ : ∃ d : Nat, d = u.toNat / 16 := ⟨_, rfl⟩
                obtain ⟨m, hm⟩ : ∃ m : Nat, m = u.toNat % 16 := ⟨_, rfl⟩
                rw [← hd, ← hm] at hqb'
                have hd16 : d < 16 := by omega
                have hm16 : m < 16 := by omega
                have hd' : (u.toNat : Int) / 16 = d := by omega
                have hm' : (u.toNat : Int) % 16 = m := by omega
                clear hd hm
                by_cases c6 : u.toNat < 32
                · have d6 : (u.toNat : Int) < 32 := by omega
                  clear c5 c6
                  go_wp2_with fail
                  refine (sign_any d _ hd16).mono ?_
                  rintro e w2 ⟨rfl, rfl⟩
                  go_wp2_with fail
                  refine (sign_any m _ hm16).mono ?_
                  rintro e w2 ⟨rfl, rfl⟩
                  go_wp2
                  exact rq_round hq' c (by rw [hqb'.out]; simp)
                · have d6 : ¬ (u.toNat : Int) < 32 := by omega
                  have d7 : 126 < (u.toNat : Int) := by omega
                  clear c5 c6
                  go_wp2_with fail
                  refine (sign_any d _ hd16).mono ?_
                  rintro e w2 ⟨rfl, rfl⟩
                  go_wp2_with fail
                  refine (sign_any m _ hm16).mono ?_
                  rintro e w2 ⟨rfl, rfl⟩
                  go_wp2
                  exact rq_round hq' c (by rw [hqb'.out]; simp)
              · have hqb' := Lib.hid (show Sp.qb u = [u] from by unfold Sp.qb; rw [if_neg c1, if_neg c2, if_neg c3, if_neg c4, if_neg c5])
                have d6 : ¬ (u.toNat : Int) < 32 := by omega
                have d7 : ¬ 126 < (u.toNat : Int) := by omega
                clear c1 c2 c3 c4 c5
                go_wp2
                exact rq_round hq' c (by rw [hqb'.out, append_list, hx.out])
    · rw [take_all s k c] at H
      go_wp2
      go_ret
      refine ⟨?_, rfl⟩
      show Ending.returned (.string (X ++ ⟨#[34]⟩)) = _
      rw [strOf_inj (show (X ++ ⟨#[34]⟩ : ByteArray).data.toList = Sp.quoteL s.data.toList from by rw [append_list, H.out]; rfl)]
end Go.Proofs.YtajmdpndbfmdmaaDoor
namespace Go.Proofs.YtajmdpndbfmdmaaDoor
open Go Go.RowKit

theorem worth_some (c : UInt8) (x : Nat) (w : World) (h : Sp.hexv c = some x) :
    Calls Tryd.prog 148 #[.int .u8 c.toNat] w fun e w' => e = .returned (.tuple #[.int .u8 x, .bool true]) ∧ w = w' := by
  have hlt := c.toNat_lt
  unfold Sp.hexv at h
  by_cases h1 : 48 ≤ c.toNat ∧ c.toNat ≤ 57
  · rw [if_pos h1] at h
    injection h with h
    have e : (c.toNat : Int) - 48 = x := by omega
    have a1 : 48 ≤ (c.toNat : Int) := by omega
    have a2 : (c.toNat : Int) ≤ 57 := by omega
    clear h h1
    go_enter Tryd.func148, Tryd.ntmps148
    go_wp2
    go_ret2
    exact ⟨rfl, rfl⟩
  · rw [if_neg h1] at h
    by_cases h2 : 97 ≤ c.toNat ∧ c.toNat ≤ 102
    · rw [if_pos h2] at h
      injection h with h
      have e : (c.toNat : Int) - 97 + 10 = x := by omega
      have a1 : 48 ≤ (c.toNat : Int) := by omega
      have a2 : ¬ (c.toNat : Int) ≤ 57 := by omega
      have a3 : 97 ≤ (c.toNat : Int) := by omega
      have a4 : (c.toNat : Int) ≤ 102 := by omega
      clear h h1 h2
      go_enter Tryd.func148, Tryd.ntmps148
      go_wp2
      go_ret2
      exact ⟨rfl, rfl⟩
    · rw [if_neg h2] at h; cases h

theorem worth_none (c : UInt8) (w : World) (h : Sp.hexv c = none) :
    Calls Tryd.prog 148 #[.int .u8 c.toNat] w fun e w' => e = .returned (.tuple #[.int .u8 0, .bool false]) ∧ w = w' := by
  have hlt := c.toNat_lt
  unfold Sp.hexv at h
  by_cases h1 : 48 ≤ c.toNat ∧ c.toNat ≤ 57
  · rw [if_pos h1] at h; cases h
  · rw [if_neg h1] at h
    by_cases h2 : 97 ≤ c.toNat ∧ c.toNat ≤ 102
    · rw [if_pos h2] at h; cases h
    · clear h
      go_enter Tryd.func148, Tryd.ntmps148
      go_wp2
      all_goals first
        | (go_ret2; exact ⟨rfl, rfl⟩)
        | (exfalso; simp at *; omega)

theorem sixteen_some (c : UInt8) (x : Nat) (w : World) (h : Sp.hexv c = some x) :
    Calls Tryd.prog 168 #[.int .u8 c.toNat] w fun e w' => e = .returned (.int .i64 x) ∧ w = w' := by
  have hlt := c.toNat_lt
  unfold Sp.hexv at h
  by_cases h1 : 48 ≤ c.toNat ∧ c.toNat ≤ 57
  · rw [if_pos h1] at h
    injection h with h
    have e : (c.toNat : Int) - 48 = x := by omega
    have a1 : 48 ≤ (c.toNat : Int) := by omega
    have a2 : (c.toNat : Int) ≤ 57 := by omega
    clear h h1
    go_enter Tryd.func168, Tryd.ntmps168
    go_wp2
    go_ret
    exact ⟨rfl, rfl⟩
  · rw [if_neg h1] at h
    by_cases h2 : 97 ≤ c.toNat ∧ c.toNat ≤ 102
    · rw [if_pos h2] at h
      injection h with h
      have e : (c.toNat : Int) - 97 + 10 = x := by omega
      have a1 : 48 ≤ (c.toNat : Int) := by omega
      have a2 : ¬ (c.toNat : Int) ≤ 57 := by omega
      have a3 : 97 ≤ (c.toNat : Int) := by omega
      have a4 : (c.toNat : Int) ≤ 102 := by omega
      clear h h1 h2
      go_enter Tryd.func168, Tryd.ntmps168
      go_wp2
      go_ret
      exact ⟨rfl, rfl⟩
    · rw [if_neg h2] at h; cases h

theorem sixteen_none (c : UInt8) (w : World) (h : Sp.hexv c = none) :
    Calls Tryd.prog 168 #[.int .u8 c.toNat] w fun e w' => e = .returned (.int .i64 (-1)) ∧ w = w' := by
  have hlt := c.toNat_lt
  unfold Sp.hexv at h
  by_cases h1 : 48 ≤ c.toNat ∧ c.toNat ≤ 57
  · rw [if_pos h1] at h; cases h
  · rw [if_neg h1] at h
    by_cases h2 : 97 ≤ c.toNat ∧ c.toNat ≤ 102
    · rw [if_pos h2] at h; cases h
    · clear h
      go_enter Tryd.func168, Tryd.ntmps168
      go_wp2
      all_goals first
        | (go_ret; exact ⟨rfl, rfl⟩)
        | (exfalso; simp at *; omega)

def sixV (c : UInt8) : Int := match Sp.hexv c with | some x => (x : Int) | none => -1
theorem sixV_some {c : UInt8} {x : Nat} (h : Sp.hexv c = some x) : sixV c = x := by unfold sixV; rw [h]
theorem sixV_none {c : UInt8} (h : Sp.hexv c = none) : sixV c = -1 := by unfold sixV; rw [h]
theorem sixV_any (c : UInt8) (w : World) : Calls Tryd.prog 168 #[.int .u8 c.toNat] w fun e w' => e = .returned (.int .i64 (sixV c)) ∧ w' = w := by
  cases h : Sp.hexv c with
  | none => rw [sixV_none h]; exact (sixteen_none c w h).mono fun _ _ h => ⟨h.1, h.2.symm⟩
  | some x => rw [sixV_some h]; exact (sixteen_some c x w h).mono fun _ _ h => ⟨h.1, h.2.symm⟩

theorem hexv_lt (c : UInt8) (x : Nat) (h : Sp.hexv c = some x) : x < 16 := by
  unfold Sp.hexv at h
  split at h
  · injection h; omega
  · split at h
    · injection h; omega
    · cases h

theorem list_cons (s : ByteArray) (h : 0 < s.size) : ∃ r, s.data.toList = s[0]'h :: r := by
  have h' : 0 < s.data.toList.length := by rw [size_list]; exact h
  exact ⟨s.data.toList.drop 1, List.drop_eq_getElem_cons (i := 0) h'⟩
theorem list_cons3 (s : ByteArray) (h : 3 ≤ s.size) : ∃ r, s.data.toList = s[0]'(by omega) :: s[1]'(by omega) :: s[2]'(by omega) :: r := by
  have h' : 3 ≤ s.data.toList.length := by rw [size_list]; exact h
  refine ⟨s.data.toList.drop 3, ?_⟩
  rw [show s.data.toList = s.data.toList.drop 0 from rfl, List.drop_eq_getElem_cons (i := 0) (by omega), List.drop_eq_getElem_cons (i := 1) (by simp; omega), List.drop_eq_getElem_cons (i := 2) (by simp; omega)]
  rfl

abbrev escV (s : ByteArray) : Value := .tuple #[.int .u8 (Sp.escL s.data.toList).1.toNat, .int .i64 (Sp.escL s.data.toList).2]


theorem escape_x (s : ByteArray) (c a b : UInt8) (va vb : Int) (oa ob : Bool) (w : World) (h3 : 3 ≤ s.size) (h3' : 3 ≤ (s.size : Int)) (he : s.toList.isEmpty = false) (hc : s[0]'(by omega) = c) (ha : s[1]'(by omega) = a) (hb : s[2]'(by omega) = b)
    (d1 : ((c.toNat : Int) == 92) = false) (d2 : ((c.toNat : Int) == 34) = false) (d3 : ((c.toNat : Int) == 39) = false) (d4 : ((c.toNat : Int) == 110) = false) (d5 : ((c.toNat : Int) == 116) = false) (d6 : ((c.toNat : Int) == 114) = false) (d7 : ((c.toNat : Int) == 120) = true)
    (q1 : Hid (∀ w, Calls Tryd.prog 148 #[.int .u8 a.toNat] w fun e w' => e = .returned (.tuple #[.int .u8 va, .bool oa]) ∧ w = w'))
    (q2 : Hid (∀ w, Calls Tryd.prog 148 #[.int .u8 b.toNat] w fun e w' => e = .returned (.tuple #[.int .u8 vb, .bool ob]) ∧ w = w'))
    (Q : Value) (hQ : Hid (oa = false ∨ ob = false → Q = .tuple #[.int .u8 0, .int .i64 0])) (hP : Hid (oa = true ∧ ob = true → Q = .tuple #[.int .u8 (bits .or .u8 (va * 16 % 256) vb), .int .i64 3])) :
    Calls Tryd.prog 113 #[.string s] w fun e w' => e = .returned Q ∧ w = w' := by
  go_enter Tryd.func113, Tryd.ntmps113
  go_wp2_with fail
  refine (q1.out _).mono ?_
  rintro e w2 ⟨rfl, rfl⟩
  go_wp2_with fail
  refine (q2.out _).mono ?_
  rintro e w2 ⟨rfl, rfl⟩
  cases oa
  · go_wp2
    go_ret2
    exact ⟨by rw [hQ.out (by simp)]; rfl, rfl⟩
  · cases ob
    · go_wp2
      go_ret2
      exact ⟨by rw [hQ.out (by simp)]; rfl, rfl⟩
    · go_wp2
      go_ret2
      exact ⟨by rw [hP.out (by simp)]; rfl, rfl⟩

theorem shl_or : ∀ x, x < 16 → ∀ y, y < 16 → bits .or .u8 (((x : Nat) : Int) * 16 % 256) ((y : Nat) : Int) = (UInt8.ofNat (16 * x + y)).toNat := by decide

set_option maxRecDepth 100000 in
theorem escape_any (s : ByteArray) (w : World) :
    Calls Tryd.prog 113 #[.string s] w fun e w' => e = .returned (escV s) ∧ w = w' := by
  by_cases c0 : s.size = 0
  · obtain rfl := empty_of c0
    clear c0
    go_enter Tryd.func113, Tryd.ntmps113
    go_wp2
    go_ret2
    exact ⟨rfl, rfl⟩
  · have he := isEmpty_of c0
    have hp : 0 < s.size := by omega
    obtain ⟨r, hr⟩ := list_cons s hp
    obtain ⟨c, hc⟩ : ∃ c, c = s[0]'hp := ⟨_, rfl⟩
    rw [← hc] at hr
    have hc' := hc.symm
    have hr' := Lib.hid hr
    have hlt := c.toNat_lt
    clear hc hr c0
    obtain ⟨V, hV⟩ : ∃ V, V = escV s := ⟨_, rfl⟩
    rw [← hV]
    unfold escV at hV
    rw [hr'.out, Sp.escL] at hV
    by_cases h1 : c.toNat = 92 ∨ c.toNat = 34 ∨ c.toNat = 39
    · rw [if_pos h1] at hV
      have hV' := Lib.hid hV
      clear hV
      by_cases b1 : c.toNat = 92
      · have d1 : ((c.toNat : Int) == 92) = true := by simp; omega
        clear h1 b1
        go_enter Tryd.func113, Tryd.ntmps113
        go_wp2
        go_ret2
        exact ⟨by rw [hV'.out]; rfl, rfl⟩
      · have d1 : ((c.toNat : Int) == 92) = false := by simp; omega
        by_cases b2 : c.toNat = 34
        · have d2 : ((c.toNat : Int) == 34) = true := by simp; omega
          clear h1 b1 b2
          go_enter Tryd.func113, Tryd.ntmps113
          go_wp2
          go_ret2
          exact ⟨by rw [hV'.out]; rfl, rfl⟩
        · have d2 : ((c.toNat : Int) == 34) = false := by simp; omega
          have d3 : ((c.toNat : Int) == 39) = true := by simp; omega
          clear h1 b1 b2
          go_enter Tryd.func113, Tryd.ntmps113
          go_wp2
          go_ret2
          exact ⟨by rw [hV'.out]; rfl, rfl⟩
    · rw [if_neg h1] at hV
      have d1 : ((c.toNat : Int) == 92) = false := by simp; omega
      have d2 : ((c.toNat : Int) == 34) = false := by simp; omega
      have d3 : ((c.toNat : Int) == 39) = false := by simp; omega
      clear h1
      by_cases h2 : c.toNat = 110
      · rw [if_pos h2] at hV
        have hV' := Lib.hid hV
        have d4 : ((c.toNat : Int) == 110) = true := by simp; omega
        clear hV h2
        go_enter Tryd.func113, Tryd.ntmps113
        go_wp2
        go_ret2
        exact ⟨by rw [hV'.out]; rfl, rfl⟩
      · rw [if_neg h2] at hV
        have d4 : ((c.toNat : Int) == 110) = false := by simp; omega
        clear h2
        by_cases h3 : c.toNat = 116
        · rw [if_pos h3] at hV
          have hV' := Lib.hid hV
          have d5 : ((c.toNat : Int) == 116) = true := by simp; omega
          clear hV h3
          go_enter Tryd.func113, Tryd.ntmps113
          go_wp2
          go_ret2
          exact ⟨by rw [hV'.out]; rfl, rfl⟩
        · rw [if_neg h3] at hV
          have d5 : ((c.toNat : Int) == 116) = false := by simp; omega
          clear h3
          by_cases h4 : c.toNat = 114
          · rw [if_pos h4] at hV
            have hV' := Lib.hid hV
            have d6 : ((c.toNat : Int) == 114) = true := by simp; omega
            clear hV h4
            go_enter Tryd.func113, Tryd.ntmps113
            go_wp2
            go_ret2
            exact ⟨by rw [hV'.out]; rfl, rfl⟩
          · rw [if_neg h4] at hV
            have d6 : ((c.toNat : Int) == 114) = false := by simp; omega
            clear h4
            by_cases h5 : c.toNat = 120
            · rw [if_pos h5] at hV
              have d7 : ((c.toNat : Int) == 120) = true := by simp; omega
              clear h5
              by_cases h6 : 3 ≤ s.size
              · obtain ⟨r3, hr3⟩ := list_cons3 s h6
                obtain ⟨a, ha⟩ : ∃ a, a = s[1]'(by omega) := ⟨_, rfl⟩
                obtain ⟨b, hb⟩ : ∃ b, b = s[2]'(by omega) := ⟨_, rfl⟩
                rw [← ha, ← hb, hr'.out] at hr3
                injection hr3 with _ hr3
                rw [hr3, Sp.escX] at hV
                have ha' := ha.symm
                have hb' := hb.symm
                clear ha hb hr3
                have he' := he
                have h6' : 3 ≤ (s.size : Int) := by omega
                cases x1 : Sp.hexv a with
                | none =>
                  rw [x1] at hV
                  cases x2 : Sp.hexv b with
                  | none =>
                    exact escape_x s c a b 0 0 false false w h6 h6' he' hc' ha' hb' d1 d2 d3 d4 d5 d6 d7 (fun w => worth_none a w x1) (fun w => worth_none b w x2) V (fun _ => hV) (fun h => nomatch h.1)
                  | some y =>
                    exact escape_x s c a b 0 y false true w h6 h6' he' hc' ha' hb' d1 d2 d3 d4 d5 d6 d7 (fun w => worth_none a w x1) (fun w => worth_some b y w x2) V (fun _ => hV) (fun h => nomatch h.1)
                | some x =>
                  cases x2 : Sp.hexv b with
                  | none =>
                    rw [x1, x2] at hV
                    exact escape_x s c a b x 0 true false w h6 h6' he' hc' ha' hb' d1 d2 d3 d4 d5 d6 d7 (fun w => worth_some a x w x1) (fun w => worth_none b w x2) V (fun _ => hV) (fun h => nomatch h.2)
                  | some y =>
                    rw [x1, x2] at hV
                    exact escape_x s c a b x y true true w h6 h6' he' hc' ha' hb' d1 d2 d3 d4 d5 d6 d7 (fun w => worth_some a x w x1) (fun w => worth_some b y w x2) V (fun h => by rcases h with h | h <;> cases h) (fun _ => by rw [hV, shl_or x (hexv_lt a x x1) y (hexv_lt b y x2)]; rfl)
              · have hx : Sp.escX r = (0, 0) := by
                  have hsz : r.length + 1 = s.size := by rw [← size_list, hr'.out]; rfl
                  match r, hsz with
                  | [], _ => rfl
                  | [_], _ => rfl
                  | _ :: _ :: _, hsz => simp at hsz; omega
                rw [hx] at hV
                have hV' := Lib.hid hV
                have d8 : ¬ 3 ≤ (s.size : Int) := by omega
                clear hV h6 hx
                go_enter Tryd.func113, Tryd.ntmps113
                go_wp2
                go_ret2
                exact ⟨by rw [hV'.out]; rfl, rfl⟩
            · rw [if_neg h5] at hV
              have d7 : ((c.toNat : Int) == 120) = false := by simp; omega
              have hV' := Lib.hid hV
              clear hV h5
              go_enter Tryd.func113, Tryd.ntmps113
              go_wp2
              go_ret2
              exact ⟨by rw [hV'.out]; rfl, rfl⟩
end Go.Proofs.YtajmdpndbfmdmaaDoor
namespace Go.Proofs.YtajmdpndbfmdmaaDoor
open Go Go.RowKit

def plainR (s : ByteArray) : Except Nat (List UInt8) := Sp.plainF s.size s.data.toList 0 []
def plainV (s : ByteArray) : ByteArray × Nat × Nat :=
  if 65536 < s.size then (ByteArray.empty, 0, 3) else
  match plainR s with
  | .error p => (ByteArray.empty, p, 5)
  | .ok l => if 4096 < l.length then (ByteArray.empty, 0, 20) else (strOf l, 0, 0)
abbrev plainW (v : ByteArray × Nat × Nat) : Value := .tuple #[.string v.1, .int .i64 v.2.1, .int .i64 v.2.2]

theorem drop_cons (s : ByteArray) (k : Nat) (h : k < s.size) : s.data.toList.drop k = s[k]'h :: s.data.toList.drop (k + 1) := by
  have h' : k < s.data.toList.length := by rw [size_list]; exact h
  exact List.drop_eq_getElem_cons h'

theorem drop_ext (s : ByteArray) (k : Nat) : (s.extract k s.size).data.toList = s.data.toList.drop k := by
  rw [Lib.extract_data, List.take_of_length_le]
  rw [List.length_drop, size_list]; omega

/-- Where the reading stands: k bytes are read, acc is what came of them. -/
def PAt (s : ByteArray) (R : Except Nat (List UInt8)) (k : Nat) (acc : List UInt8) : Prop :=
  k ≤ s.size ∧ acc.length ≤ k ∧ ∃ n, s.size - k ≤ n ∧ Sp.plainF n (s.data.toList.drop k) k acc = R

theorem PAt.start (s : ByteArray) : PAt s (plainR s) 0 [] := ⟨by omega, by simp, s.size, by omega, rfl⟩
theorem PAt.stop {s : ByteArray} {R : Except Nat (List UInt8)} {k : Nat} {acc : List UInt8} (h : PAt s R k acc) (hk : s.size ≤ k) : R = .ok acc := by
  obtain ⟨_, _, n, _, e⟩ := h
  rw [← e, List.drop_of_length_le (by rw [size_list]; exact hk), Sp.plainF_nil]
theorem PAt.plain {s : ByteArray} {R : Except Nat (List UInt8)} {k : Nat} {acc : List UInt8} (h : PAt s R k acc) (hk : k < s.size) (u : UInt8) (hu : s[k]'hk = u) (h92 : u.toNat ≠ 92) :
    PAt s R (k + 1) (acc ++ [u]) := by
  obtain ⟨h1, h2, n, h3, e⟩ := h
  cases n with
  | zero => omega
  | succ n =>
    rw [drop_cons s k hk, hu, Sp.plainF, if_neg h92] at e
    exact ⟨by omega, by simp; omega, n, by omega, e⟩
theorem PAt.bad {s : ByteArray} {R : Except Nat (List UInt8)} {k : Nat} {acc : List UInt8} (h : PAt s R k acc) (hk : k < s.size) (u : UInt8) (hu : s[k]'hk = u) (h92 : u.toNat = 92)
    (h0 : (Sp.escL (s.data.toList.drop (k + 1))).2 = 0) : R = .error k := by
  obtain ⟨h1, h2, n, h3, e⟩ := h
  cases n with
  | zero => omega
  | succ n =>
    rw [drop_cons s k hk, hu, Sp.plainF, if_pos h92, if_pos h0] at e
    exact e.symm
theorem PAt.esc {s : ByteArray} {R : Except Nat (List UInt8)} {k : Nat} {acc : List UInt8} (h : PAt s R k acc) (hk : k < s.size) (u : UInt8) (hu : s[k]'hk = u) (h92 : u.toNat = 92)
    {c : UInt8} {j : Nat} (h0 : Sp.escL (s.data.toList.drop (k + 1)) = (c, j)) (hj : j ≠ 0) : PAt s R (k + j + 1) (acc ++ [c]) := by
  obtain ⟨h1, h2, n, h3, e⟩ := h
  cases n with
  | zero => omega
  | succ n =>
    have hb := (Sp.escL_snd (s.data.toList.drop (k + 1))).1
    rw [h0, List.length_drop, size_list] at hb
    simp only at hb
    rw [drop_cons s k hk, hu, Sp.plainF, if_pos h92, h0, if_neg hj, List.drop_drop] at e
    rw [show k + j + 1 = k + 1 + j from by omega]
    exact ⟨by omega, by simp; omega, n, by omega, e⟩

set_option maxRecDepth 100000 in
theorem plain_any (s : ByteArray) (w : World) :
    Calls Tryd.prog 59 #[.string s] w fun e w' => e = .returned (plainW (plainV s)) ∧ Below w.heap.size w w' := by
  obtain ⟨V, hV⟩ : ∃ V, V = plainV s := ⟨_, rfl⟩
  rw [← hV]
  unfold plainV at hV
  by_cases c0 : 65536 < s.size
  · rw [if_pos c0] at hV
    have hV' := Lib.hid hV
    have d0 : 65536 < (s.size : Int) := by omega
    clear hV c0
    go_enter Tryd.func59, Tryd.ntmps59
    go_wp2
    go_ret3
    exact ⟨by rw [hV'.out]; rfl, Below.refl _ _⟩
  · rw [if_neg c0] at hV
    have d0 : ¬ 65536 < (s.size : Int) := by omega
    obtain ⟨R, hR⟩ : ∃ R, R = plainR s := ⟨_, rfl⟩
    have hS := Lib.hid (PAt.start s)
    rw [← hR] at hV hS
    have hV' := Lib.hid hV
    clear hV hR
    go_enter Tryd.func59, Tryd.ntmps59
    go_wp2_with fail
    go_loopw [6] (fun i wr => ∃ (k : Nat) (acc : List UInt8), i = .int .i64 k ∧ Hid (PAt s R k acc) ∧ Hid (Bw w acc wr)) (fun i _ => ((s.size : Int) - intOf i).toNat)
    case atStart => exact ⟨0, [], rfl, hS, Lib.hid (bw_new w)⟩
    case round =>
      obtain ⟨k, acc, rfl, H, HB⟩ := hrel
      have hk := H.out.1
      have hal := Lib.hid H.out.2.1
      by_cases c : (k : Int) < s.size
      · obtain ⟨u, hu⟩ : ∃ u, u = s[k]'(by omega) := ⟨_, rfl⟩
        have hu' := hu.symm
        have hlt := u.toNat_lt
        clear hu
        by_cases c1 : u.toNat = 92
        · have d1 : ((u.toNat : Int) == 92) = true := by simp; omega
          have hq := Lib.hid (fun w' => escape_any (s.extract (k + 1) s.size) w')
          obtain ⟨p, hp⟩ : ∃ p, p = Sp.escL (s.data.toList.drop (k + 1)) := ⟨_, rfl⟩
          have hb := (Sp.escL_snd (s.data.toList.drop (k + 1))).1
          rw [List.length_drop, size_list] at hb
          unfold escV at hq
          rw [drop_ext] at hq
          rw [← hp] at hq hb
          obtain ⟨e0, j⟩ := p
          by_cases cj : j = 0
          · have hRk := Lib.hid (H.out.bad (by omega) u hu' c1 (by rw [← hp]; exact cj))
            have hz : ((j : Int) == 0) = true := by simp; omega
            clear hp cj
            go_wp2_with fail
            refine (hq.out _).mono ?_
            rintro e w2 ⟨rfl, rfl⟩
            go_wp2_with fail
            go_ret3
            exact ⟨by rw [hV'.out, hRk.out]; rfl, HB.out.2⟩
          · have hH2 := Lib.hid (H.out.esc (by omega) u hu' c1 hp.symm cj)
            have hz : ((j : Int) == 0) = false := by simp; omega
            clear hp cj
            go_wp2_with fail
            refine (hq.out _).mono ?_
            rintro e w2 ⟨rfl, rfl⟩
            go_wp2_with fail
            refine (bwByte HB e0 (by have := hal.out; omega)).mono ?_
            rintro e w3 ⟨rfl, H3⟩
            go_wp2_with fail
            refine ⟨⟨k + j + 1, _, by simp, hH2, H3⟩, by simp [intOf]; omega⟩
        · have d1 : ((u.toNat : Int) == 92) = false := by simp; omega
          have hH2 := Lib.hid (H.out.plain (by omega) u hu' c1)
          go_wp2_with fail
          refine (bwByte HB u (by have := hal.out; omega)).mono ?_
          rintro e w3 ⟨rfl, H3⟩
          go_wp2_with fail
          refine ⟨⟨k + 1, _, by simp, hH2, H3⟩, by simp [intOf]; omega⟩
      · have hRe := Lib.hid (H.out.stop (by omega))
        rw [hRe.out] at hV'
        by_cases c2 : 4096 < acc.length
        · have d2 : 4096 < (acc.length : Int) := by omega
          go_wp2_with fail
          refine (Tryd.Builder_Len _ _ _ _ HB.out.1).mono ?_
          rintro e w2 ⟨rfl, rfl⟩
          rw [Lib.byteCells_length]
          go_wp2_with fail
          go_ret3
          exact ⟨by rw [hV'.out, if_pos c2]; rfl, HB.out.2⟩
        · have d2 : ¬ 4096 < (acc.length : Int) := by omega
          go_wp2_with fail
          refine (Tryd.Builder_Len _ _ _ _ HB.out.1).mono ?_
          rintro e w2 ⟨rfl, rfl⟩
          rw [Lib.byteCells_length]
          go_wp2_with fail
          refine (Tryd.Builder_String_any _ _ _ _ HB.out.1 HB.out.2.size).mono ?_
          rintro e w3 ⟨rfl, h3⟩
          have h3' := Lib.hid (HB.out.2.trans h3)
          clear h3
          go_wp2_with fail
          go_ret3
          exact ⟨by rw [hV'.out, if_neg c2]; rfl, h3'.out⟩
end Go.Proofs.YtajmdpndbfmdmaaDoor
namespace Go.Proofs.YtajmdpndbfmdmaaDoor
open Go Go.RowKit

theorem conv_of {z : Nat} {n : Int} (h : floatToIntVal .f64 z .i64 = some n) (w : World) : (convert 22 3 (.float .f64 z)).run Tryd.prog w = .ok (.int .i64 n) w :=
  run_convert_float_int w 22 3 .f64 .i64 z n (by rw [Tryd.underlying22]; rfl) Tryd.underlying3 h

theorem place_any (s : ByteArray) (x : Nat) (w : World) (hs : s.size ≤ 70000) (hx : x < 18446744073709551616) :
    Calls Tryd.prog 84 #[.string s, .float .f64 x] w fun e w' => e = .returned (.int .i64 ((Fl.placeS s.size x : Nat) : Int)) ∧ w = w' := by
  have h1 := Fl.ord_neq hx hx
  rw [Fl.feq_self] at h1
  obtain ⟨p, hp⟩ : ∃ p, p = Fl.placeS s.size x := ⟨_, rfl⟩
  rw [← hp]
  cases hN : Fl.isN x with
  | true =>
    have hp0 : p = 0 := by rw [hp]; unfold Fl.placeS; rw [hN]; rfl
    subst hp0
    rw [hN] at h1
    clear hN hp hx
    go_enter Tryd.func84, Tryd.ntmps84
    go_wp2
    go_ret
    exact ⟨rfl, rfl⟩
  | false =>
    rw [hN] at h1
    have hT := Lib.hid (fun w' => trunc_any x w' (by rw [Fl.isN_read hx, hN]))
    have h2 := Fl.ord_lss hx (y := 0) (by omega)
    have h3 : Fl.flt x 0 = decide (Fl.key x < 0) := by unfold Fl.flt; rw [hN, Fl.isN_zero, Fl.key_zero']; rfl
    rw [h3] at h2
    have hW := Fl.floatOfInt_W (s.size : Int)
    by_cases hk : Fl.key x < 0
    · obtain ⟨S, Z, e1, e2, e3⟩ := Fl.max_place (n := s.size) (by omega) hx hN hk
      rw [← hp] at e3
      have hm := fun ts t w => e2 ts t Tryd.prog w
      have hc := conv_of e3
      rw [decide_eq_true hk] at h2
      generalize Fl.tr x = T at hT e1
      have ha := fun w => run_float_arith (P := Tryd.prog) w .add 22 .f64 (Fl.W s.size) T S e1
      generalize Fl.W s.size = L at hW ha
      clear e1 e2 e3 hk h3 hp hN hx
      go_enter Tryd.func84, Tryd.ntmps84
      go_wp2_with fail
      refine (hT.out _).mono ?_; rintro e w' ⟨rfl, rfl⟩
      go_wp2_with fail
      go_ret
      exact ⟨rfl, rfl⟩
    · obtain ⟨e0, Z, e2, e3⟩ := Fl.min_place (n := s.size) (by omega) hx hN hk
      rw [← hp] at e3
      have hm := fun ts t w => e2 ts t Tryd.prog w
      have hc := conv_of e3
      rw [decide_eq_false hk] at h2
      generalize Fl.tr x = T at hT hm
      generalize Fl.W s.size = L at hW hm
      clear e0 e2 e3 hk h3 hp hN hx
      go_enter Tryd.func84, Tryd.ntmps84
      go_wp2_with fail
      refine (hT.out _).mono ?_; rintro e w' ⟨rfl, rfl⟩
      go_wp2_with fail
      go_ret
      exact ⟨rfl, rfl⟩
end Go.Proofs.YtajmdpndbfmdmaaDoor
namespace Go.Proofs.YtajmdpndbfmdmaaDoor
open Go Go.RowKit

def partS (s : ByteArray) (x y : Nat) : ByteArray := if Fl.placeS s.size y ≤ Fl.placeS s.size x then ByteArray.empty else s.extract (Fl.placeS s.size x) (Fl.placeS s.size y)

theorem part_any (s : ByteArray) (x y : Nat) (w : World) (hs : s.size ≤ 70000) (hx : x < 18446744073709551616) (hy : y < 18446744073709551616) :
    Calls Tryd.prog 27 #[.string s, .float .f64 x, .float .f64 y] w fun e w' => e = .returned (.string (partS s x y)) ∧ w = w' := by
  have q1 := Lib.hid (fun w' => place_any s x w' hs hx)
  have q2 := Lib.hid (fun w' => place_any s y w' hs hy)
  have ha := Fl.placeS_le s.size x
  have hb := Fl.placeS_le s.size y
  unfold partS
  generalize Fl.placeS s.size x = a at *
  generalize Fl.placeS s.size y = b at *
  by_cases c : b ≤ a
  · rw [if_pos c]
    have c' : (b : Int) ≤ a := by omega
    clear c
    go_enter Tryd.func27, Tryd.ntmps27
    go_wp2_with fail
    refine (q1.out _).mono ?_; rintro e w' ⟨rfl, rfl⟩
    go_wp2_with fail
    refine (q2.out _).mono ?_; rintro e w' ⟨rfl, rfl⟩
    go_wp2_with fail
    go_ret
    exact ⟨rfl, rfl⟩
  · rw [if_neg c]
    have c' : ¬ (b : Int) ≤ a := by omega
    have c2 : (a : Int) ≤ b := by omega
    have c3 : (b : Int) ≤ s.size := by omega
    go_enter Tryd.func27, Tryd.ntmps27
    go_wp2_with fail
    refine (q1.out _).mono ?_; rintro e w' ⟨rfl, rfl⟩
    go_wp2_with fail
    refine (q2.out _).mono ?_; rintro e w' ⟨rfl, rfl⟩
    go_wp2_with fail
    go_ret
    exact ⟨rfl, rfl⟩

theorem alive_part : partS ⟨#[97, 98, 99, 100, 101]⟩ 4607182418800017408 4613937818241073152 = ⟨#[98, 99]⟩ := by decide +kernel
theorem alive_quote : strOf (Sp.quoteL [97]) = ⟨#[34, 97, 34]⟩ := by decide +kernel

theorem alive_any (w : World) :
    Calls Tryd.prog 35 #[] w fun e w' => e = .returned (.bool true) ∧ Below w.heap.size w w' := by
  have q1 := Lib.hid (fun w' => part_any ⟨#[97, 98, 99, 100, 101]⟩ 4607182418800017408 4613937818241073152 w' (by decide) (by decide) (by decide))
  have q2 := Lib.hid (fun w' => quote_any ⟨#[97]⟩ w' (by decide))
  rw [alive_part] at q1
  rw [show strOf (Sp.quoteL (⟨#[97]⟩ : ByteArray).data.toList) = ⟨#[34, 97, 34]⟩ from alive_quote] at q2
  go_enter Tryd.func35, Tryd.ntmps35
  go_wp2_with fail
  refine (q1.out _).mono ?_; rintro e w' ⟨rfl, rfl⟩
  go_wp2_with fail
  refine (q2.out _).mono ?_; rintro e w' ⟨rfl, hb⟩
  have hb' := Lib.hid hb
  clear hb
  go_wp2
  go_ret
  exact ⟨rfl, hb'.out⟩

theorem strOf_get (l : List UInt8) (k : Nat) (h : k < (strOf l).size) (h' : k < l.length) : (strOf l)[k]'h = l[k]'h' := rfl

/-- A string, quoted: its length, its ends, its inside. -/
theorem quote_facts (s : ByteArray) : ∃ (Q B : ByteArray) (h2 : 2 ≤ Q.size), Q = strOf (Sp.quoteL s.data.toList) ∧ Q.size ≤ 4 * s.size + 2 ∧ Q[0]'(by omega) = 34 ∧ Q[Q.size - 1]'(by omega) = 34 ∧ Q.extract 1 (Q.size - 1) = B ∧
    B = strOf (Sp.body s.data.toList) ∧ (∀ k (h : k < Q.size), 32 ≤ (Q[k]'h).toNat ∧ (Q[k]'h).toNat ≤ 126) := by
  have hl : (strOf (Sp.quoteL s.data.toList)).size = (Sp.body s.data.toList).length + 2 := by
    rw [← size_list, strOf_list]; unfold Sp.quoteL; simp
  have hbl := Sp.body_length s.data.toList
  rw [size_list] at hbl
  refine ⟨strOf (Sp.quoteL s.data.toList), strOf (Sp.body s.data.toList), by omega, rfl, by omega, rfl, ?_, ?_, rfl, ?_⟩
  · have h' : (strOf (Sp.quoteL s.data.toList)).size - 1 < (Sp.quoteL s.data.toList).length := by rw [hl]; unfold Sp.quoteL; simp
    rw [strOf_get _ _ _ h']
    have e : ∀ (j : Nat) (hj : j < (Sp.quoteL s.data.toList).length), j = (Sp.body s.data.toList).length + 1 → (Sp.quoteL s.data.toList)[j]'hj = 34 := by
      intro j hj e
      subst e
      apply Option.some.inj
      rw [← List.getElem?_eq_getElem]
      show (34 :: (Sp.body s.data.toList ++ [34]))[(Sp.body s.data.toList).length + 1]? = some 34
      rw [List.getElem?_cons_succ, List.getElem?_append_right (Nat.le_refl _), Nat.sub_self]
      rfl
    exact e _ h' (by omega)
  · apply strOf_inj
    rw [Lib.extract_data, hl, strOf_list]
    unfold Sp.quoteL
    simp
  · intro k h
    exact Sp.quoteL_bounds s.data.toList _ (List.getElem_mem (by rw [hl] at h; unfold Sp.quoteL; simp; omega))

theorem plain_quoted (s : ByteArray) (h : s.size ≤ 4096) : plainV (strOf (Sp.body s.data.toList)) = (s, 0, 0) := by
  have hbl := Sp.body_length s.data.toList
  rw [size_list] at hbl
  have hl : (strOf (Sp.body s.data.toList)).size = (Sp.body s.data.toList).length := by rw [← size_list, strOf_list]
  unfold plainV
  rw [if_neg (by omega)]
  unfold plainR
  rw [strOf_list, Sp.plain_body _ _ _ _ (by omega), List.nil_append]
  show (if 4096 < s.data.toList.length then _ else _) = _
  rw [if_neg (by rw [size_list]; omega), strOf_data]

end Go.Proofs.YtajmdpndbfmdmaaDoor
