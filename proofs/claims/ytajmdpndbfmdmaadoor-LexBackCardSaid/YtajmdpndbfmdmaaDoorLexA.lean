/-
  What the layer of tokens computes, in plain Lean: bytes as tokens. Conditions: none.
-/
import Derived.Test.YtajmdpndbfmdmaaDoorSt
import Derived.Test.YtajmdpndbfmdmaaDoorRe
import Derived.Lib.IndexMore
namespace Go.Proofs.YtajmdpndbfmdmaaDoor
open Go

namespace Lx

def wordsRow : List UInt8 := [32, 98, 114, 101, 97, 107, 32, 99, 97, 115, 101, 32, 99, 97, 116, 99, 104, 32, 99, 108, 97, 115, 115, 32, 99, 111, 110, 115, 116, 32, 99, 111, 110, 116, 105, 110, 117, 101, 32, 100, 101, 98, 117, 103, 103, 101, 114, 32, 100, 101, 102, 97, 117, 108, 116, 32, 100, 101, 108, 101, 116, 101, 32, 100, 111, 32, 101, 108, 115, 101, 32, 101, 110, 117, 109, 32, 101, 120, 112, 111, 114, 116, 32, 101, 120, 116, 101, 110, 100, 115, 32, 102, 97, 108, 115, 101, 32, 102, 105, 110, 97, 108, 108, 121, 32, 102, 111, 114, 32, 102, 117, 110, 99, 116, 105, 111, 110, 32, 105, 102, 32, 105, 109, 112, 111, 114, 116, 32, 105, 110, 32, 105, 110, 115, 116, 97, 110, 99, 101, 111, 102, 32, 108, 101, 116, 32, 110, 101, 119, 32, 110, 117, 108, 108, 32, 114, 101, 116, 117, 114, 110, 32, 115, 117, 112, 101, 114, 32, 115, 119, 105, 116, 99, 104, 32, 116, 104, 105, 115, 32, 116, 104, 114, 111, 119, 32, 116, 114, 117, 101, 32, 116, 114, 121, 32, 116, 121, 112, 101, 111, 102, 32, 118, 97, 114, 32, 118, 111, 105, 100, 32, 119, 104, 105, 108, 101, 32, 119, 105, 116, 104, 32, 121, 105, 101, 108, 100, 32]
def signsRow : List UInt8 := [32, 123, 32, 125, 32, 40, 32, 41, 32, 91, 32, 93, 32, 46, 32, 59, 32, 44, 32, 63, 32, 58, 32, 60, 32, 62, 32, 60, 61, 32, 62, 61, 32, 61, 61, 32, 33, 61, 32, 61, 61, 61, 32, 33, 61, 61, 32, 43, 32, 45, 32, 42, 32, 47, 32, 37, 32, 38, 32, 124, 32, 94, 32, 33, 32, 126, 32, 38, 38, 32, 124, 124, 32, 61, 32, 43, 61, 32, 45, 61, 32, 42, 61, 32, 47, 61, 32, 37, 61, 32, 60, 60, 32, 62, 62, 32, 62, 62, 62, 32]
def wordList : List (List UInt8) := [[98, 114, 101, 97, 107], [99, 97, 115, 101], [99, 97, 116, 99, 104], [99, 108, 97, 115, 115], [99, 111, 110, 115, 116], [99, 111, 110, 116, 105, 110, 117, 101], [100, 101, 98, 117, 103, 103, 101, 114], [100, 101, 102, 97, 117, 108, 116], [100, 101, 108, 101, 116, 101], [100, 111], [101, 108, 115, 101], [101, 110, 117, 109], [101, 120, 112, 111, 114, 116], [101, 120, 116, 101, 110, 100, 115], [102, 97, 108, 115, 101], [102, 105, 110, 97, 108, 108, 121], [102, 111, 114], [102, 117, 110, 99, 116, 105, 111, 110], [105, 102], [105, 109, 112, 111, 114, 116], [105, 110], [105, 110, 115, 116, 97, 110, 99, 101, 111, 102], [108, 101, 116], [110, 101, 119], [110, 117, 108, 108], [114, 101, 116, 117, 114, 110], [115, 117, 112, 101, 114], [115, 119, 105, 116, 99, 104], [116, 104, 105, 115], [116, 104, 114, 111, 119], [116, 114, 117, 101], [116, 114, 121], [116, 121, 112, 101, 111, 102], [118, 97, 114], [118, 111, 105, 100], [119, 104, 105, 108, 101], [119, 105, 116, 104], [121, 105, 101, 108, 100]]
def signList : List (List UInt8) := [[123], [125], [40], [41], [91], [93], [46], [59], [44], [63], [58], [60], [62], [60, 61], [62, 61], [61, 61], [33, 61], [61, 61, 61], [33, 61, 61], [43], [45], [42], [47], [37], [38], [124], [94], [33], [126], [38, 38], [124, 124], [61], [43, 61], [45, 61], [42, 61], [47, 61], [37, 61], [60, 60], [62, 62], [62, 62, 62]]
def wrd (l : List UInt8) : Bool := wordList.contains l
def sgn (l : List UInt8) : Bool := signList.contains l

/-- Does a text stand in a row between blanks? -/
def amongL (row s : List UInt8) : Bool := !s.isEmpty && !Lib.contains s [32] && Lib.contains row (32 :: (s ++ [32]))

/-- What stands between two blanks of a row, the next one to the first. -/
def chunks : List UInt8 → List (List UInt8)
  | [] => []
  | c :: r => if c = 32 ∧ r.dropWhile (fun b => b != 32) ≠ [] then r.takeWhile (fun b => b != 32) :: chunks r else chunks r

theorem index_cons (b : UInt8) (l sub : List UInt8) : Lib.contains (b :: l) sub = (sub.isPrefixOf (b :: l) || Lib.contains l sub) := by
  unfold Lib.contains
  rw [Lib.index]
  by_cases h : sub.isPrefixOf (b :: l) = true
  · rw [if_pos h, h]; simp
  · rw [if_neg h]
    rw [Bool.eq_false_iff.2 h, Bool.false_or]
    have := Lib.index_ge l sub
    by_cases c : Lib.index l sub = -1
    · rw [c]; simp
    · have e : (Lib.index l sub == -1) = false := by rw [beq_eq_false_iff_ne]; exact c
      rw [e]
      simp only [Bool.false_eq_true, if_false, decide_eq_decide]
      omega
theorem contains_nil (c : UInt8) (s : List UInt8) : Lib.contains [] (c :: s) = false := rfl

theorem contains_one (l : List UInt8) (c : UInt8) : Lib.contains l [c] = l.contains c := by
  induction l with
  | nil => rfl
  | cons b l ih =>
    rw [index_cons, ih, List.contains_cons]
    congr 1
    simp [List.isPrefixOf]

theorem prefix_blank : ∀ (s l : List UInt8), (∀ c ∈ s, c ≠ 32) → (s ++ [32]).isPrefixOf l = (decide (l.takeWhile (fun b => b != 32) = s) && decide (l.dropWhile (fun b => b != 32) ≠ []))
  | [], [], _ => by simp
  | [], b :: l, _ => by
    by_cases h : b = 32
    · subst h; simp [List.isPrefixOf]
    · have h' : (32 == b) = false := by rw [beq_eq_false_iff_ne]; exact fun e => h e.symm
      have h2 : (b != 32) = true := by simpa using h
      simp [List.isPrefixOf, h', h2]
  | a :: s, [], _ => by simp
  | a :: s, b :: l, hs => by
    have ih := prefix_blank s l (fun c hc => hs c (List.mem_cons_of_mem _ hc))
    have ha : a ≠ 32 := hs a (List.mem_cons_self)
    rw [List.cons_append, List.isPrefixOf, ih]
    by_cases h : a = b
    · subst h
      have h2 : (a != 32) = true := by simpa using ha
      rw [List.takeWhile_cons, List.dropWhile_cons, h2]
      simp
    · have h' : (a == b) = false := by rw [beq_eq_false_iff_ne]; exact h
      rw [h', Bool.false_and]
      symm
      rw [Bool.and_eq_false_iff]
      left
      rw [decide_eq_false_iff_not]
      intro e
      by_cases h2 : (b != 32) = true
      · rw [List.takeWhile_cons, h2] at e
        simp at e
        exact h e.1.symm
      · have h3 : (b != 32) = false := by simpa using h2
        rw [List.takeWhile_cons, h3] at e
        simp at e

theorem among_chunks (row s : List UInt8) (hs : ∀ c ∈ s, c ≠ 32) : Lib.contains row (32 :: (s ++ [32])) = (chunks row).contains s := by
  induction row with
  | nil => rfl
  | cons b l ih =>
    rw [index_cons, ih, List.isPrefixOf, prefix_blank s l hs, chunks]
    by_cases h : b = 32 ∧ l.dropWhile (fun b => b != 32) ≠ []
    · rw [if_pos h, List.contains_cons, h.1]
      have e : (s == l.takeWhile (fun b => b != 32)) = decide (l.takeWhile (fun b => b != 32) = s) := by
        rw [Bool.eq_iff_iff, beq_iff_eq, decide_eq_true_iff]; exact eq_comm
      rw [e]
      simp [h.2]
    · rw [if_neg h]
      have e : ((32 == b) && (decide (l.takeWhile (fun b => b != 32) = s) && decide (l.dropWhile (fun b => b != 32) ≠ []))) = false := by
        rw [Bool.and_eq_false_iff]
        by_cases hb : b = 32
        · right
          rw [Bool.and_eq_false_iff]
          right
          rw [decide_eq_false_iff_not]
          exact fun hd => h ⟨hb, hd⟩
        · left
          rw [beq_eq_false_iff_ne]; exact fun e => hb e.symm
      rw [e, Bool.false_or]

theorem among_list (row : List UInt8) (L : List (List UInt8)) (hL : chunks row = L) (ha : L.all (fun s => !s.isEmpty && !s.contains 32) = true) (s : List UInt8) : amongL row s = L.contains s := by
  unfold amongL
  rw [contains_one]
  by_cases h : s.isEmpty = false ∧ s.contains 32 = false
  · rw [h.1, h.2, among_chunks, hL]
    · rfl
    · intro c hc e
      subst e
      have := h.2
      rw [List.contains_eq_mem] at this
      simp at this
      exact this hc
  · have hf : (!s.isEmpty && !s.contains 32) = false := by
      rw [Bool.and_eq_false_iff]
      cases h1 : s.isEmpty
      · cases h2 : s.contains 32
        · exact absurd ⟨h1, h2⟩ h
        · right; rfl
      · left; rfl
    rw [hf, Bool.false_and]
    symm
    rw [← Bool.not_eq_true]
    intro hc
    rw [List.contains_eq_mem, decide_eq_true_iff] at hc
    have := List.all_eq_true.1 ha s hc
    rw [hf] at this
    cases this
theorem among_words (s : List UInt8) : amongL wordsRow s = wrd s := among_list wordsRow wordList (by decide +kernel) (by decide +kernel) s
theorem among_signs (s : List UInt8) : amongL signsRow s = sgn s := among_list signsRow signList (by decide +kernel) (by decide +kernel) s
theorem wrd_len (s : List UInt8) (h : wrd s = true) : s.length < 11 ∧ s ≠ [] := by
  unfold wrd at h
  rw [List.contains_eq_mem, decide_eq_true_iff] at h
  have : ∀ s ∈ wordList, s.length < 11 ∧ s ≠ [] := by decide +kernel
  exact this s h
theorem sgn_len (s : List UInt8) (h : sgn s = true) : s.length < 4 ∧ s ≠ [] := by
  unfold sgn at h
  rw [List.contains_eq_mem, decide_eq_true_iff] at h
  have : ∀ s ∈ signList, s.length < 4 ∧ s ≠ [] := by decide +kernel
  exact this s h

/-- A letter of a name; a byte of a name. -/
def isL (c : UInt8) : Bool := (decide (97 ≤ c.toNat) && decide (c.toNat ≤ 122)) || (decide (65 ≤ c.toNat) && decide (c.toNat ≤ 90)) || decide (c.toNat = 95) || decide (c.toNat = 36)
def nm (c : UInt8) : Bool := isL c || dig c
def isQ (c : UInt8) : Bool := decide (c.toNat = 34) || decide (c.toNat = 39)
def isB (c : UInt8) : Bool := decide (c.toNat = 32) || decide (c.toNat = 9) || decide (c.toNat = 10) || decide (c.toNat = 13)
def eol (c : UInt8) : Bool := decide (c.toNat = 10) || decide (c.toNat = 13)
/-- How many bytes of a text are a name's. -/
def runL (l : List UInt8) : Nat := (l.takeWhile nm).length
/-- Where a string closes, counted from i; 0: it does not. -/
def clos (q : UInt8) : List UInt8 → Nat → Nat
  | [], _ => 0
  | [c], i => if c = q then i else 0
  | c :: d :: r, i => if c = q then i else if eol c then 0 else if c.toNat = 92 then (if eol d then 0 else clos q r (i + 2)) else clos q (d :: r) (i + 1)
/-- How many bytes of a text are a sign. -/
def signLen (l : List UInt8) : Nat := if 3 ≤ l.length ∧ sgn (l.take 3) = true then 3 else if 2 ≤ l.length ∧ sgn (l.take 2) = true then 2 else if 1 ≤ l.length ∧ sgn (l.take 1) = true then 1 else 0

/-- A token: its kind, its text, its number (a float's word). -/
abbrev Tk := Nat × List UInt8 × Nat
/-- The token at the beginning of a text and how many bytes it has; or how far from there it is wrong. -/
def tokL : List UInt8 → Except Nat (Tk × Nat)
  | [] => .error 0
  | c :: r =>
    if isL c then (if 4096 < runL (c :: r) then .error 0 else .ok ((if wrd ((c :: r).take (runL (c :: r))) then 2 else 1, (c :: r).take (runL (c :: r)), 0), runL (c :: r)))
    else if dig c then
      (if ((c :: r).take (runL (c :: r))).all dig = false ∨ (c.toNat = 48 ∧ 1 < runL (c :: r)) ∨ 16 < runL (c :: r) ∨ 9007199254740991 < valL ((c :: r).take (runL (c :: r))) then .error 0
       else .ok ((3, [], Fl.W (valL ((c :: r).take (runL (c :: r))))), runL (c :: r)))
    else if isQ c then
      (if clos c r 1 = 0 then .error 0
       else if (plainV (strOf (r.take (clos c r 1 - 1)))).2.2 = 5 then .error (1 + (plainV (strOf (r.take (clos c r 1 - 1)))).2.1)
       else if (plainV (strOf (r.take (clos c r 1 - 1)))).2.2 ≠ 0 then .error 0
       else .ok ((4, (plainV (strOf (r.take (clos c r 1 - 1)))).1.data.toList, 0), clos c r 1 + 1))
    else if signLen (c :: r) = 0 then .error 0 else .ok ((5, (c :: r).take (signLen (c :: r)), 0), signLen (c :: r))

/-- The tokens, each with its place; the place that is wrong; the error's number. -/
abbrev Res := List (Nat × Tk) × Nat × Nat
abbrev St := List UInt8 × Nat × List (Nat × Tk)
def stepL : St → Res ⊕ St
  | ([], at', acc) => .inl (acc ++ [(at', 0, [], 0)], 0, 0)
  | (c :: r, at', acc) =>
    if isB c then .inr (r, at' + 1, acc)
    else if c.toNat = 47 ∧ r.head? = some 47 then .inr ((c :: r).dropWhile (fun b => b != 10), at' + ((c :: r).takeWhile (fun b => b != 10)).length, acc)
    else if c.toNat = 47 ∧ r.head? = some 42 then
      (if Lib.index (r.drop 1) [42, 47] < 0 then .inl ([], at', 5) else .inr ((r.drop 1).drop ((Lib.index (r.drop 1) [42, 47]).toNat + 2), at' + (Lib.index (r.drop 1) [42, 47]).toNat + 4, acc))
    else match tokL (c :: r) with
      | .error p => .inl ([], at' + p, 5)
      | .ok (t, n) => if acc.length = 16384 then .inl ([], at', 4) else .inr ((c :: r).drop n, at' + n, acc ++ [(at', t)])
def runN : Nat → St → Option Res
  | 0, _ => none
  | n + 1, st => match stepL st with
    | .inl res => some res
    | .inr st' => runN n st'
def Ends (st : St) (res : Res) : Prop := ∃ n, runN n st = some res
/-- A text is cut into these tokens, or refused so. -/
def Lexes (l : List UInt8) (res : Res) : Prop := Ends (l, 0, []) res

theorem runN_succ {n : Nat} {st : St} {res : Res} (h : runN n st = some res) : runN (n + 1) st = some res := by
  induction n generalizing st with
  | zero => cases h
  | succ n ih =>
    rw [runN] at h ⊢
    cases hs : stepL st with
    | inl r => rw [hs] at h; exact h
    | inr st' => rw [hs] at h; exact ih h
theorem runN_le {n m : Nat} (hm : n ≤ m) {st : St} {res : Res} (h : runN n st = some res) : runN m st = some res := by
  induction m with
  | zero => rw [Nat.le_zero.1 hm] at h; exact h
  | succ m ih =>
    rcases Nat.lt_or_ge n (m + 1) with hl | hg
    · exact runN_succ (ih (by omega))
    · rw [show m + 1 = n from by omega]; exact h
theorem Ends.det {st : St} {a b : Res} (h : Ends st a) (g : Ends st b) : a = b := by
  obtain ⟨n, hn⟩ := h
  obtain ⟨m, hm⟩ := g
  have h1 := runN_le (Nat.le_max_left n m) hn
  have h2 := runN_le (Nat.le_max_right n m) hm
  exact Option.some.inj (h1.symm.trans h2)
theorem Ends.stop {st : St} {a : Res} (h : stepL st = .inl a) : Ends st a := ⟨1, by rw [runN, h]⟩
theorem Ends.go {st st' : St} {a : Res} (h : stepL st = .inr st') (g : Ends st' a) : Ends st a := by
  obtain ⟨n, hn⟩ := g
  exact ⟨n + 1, by rw [runN, h]; exact hn⟩
end Lx
end Go.Proofs.YtajmdpndbfmdmaaDoor
