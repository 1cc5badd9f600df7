/-
  Quoting a string of bytes and reading it back, as plain functions of lists: what is quoted is read as it was. Conditions: each lemma's own hypotheses.
-/
namespace Sp

/-- A digit of sixteen as a byte. -/
def hexb (n : Nat) : UInt8 := if n < 10 then UInt8.ofNat (48 + n) else UInt8.ofNat (87 + n)
/-- A byte, quoted. -/
def qb (c : UInt8) : List UInt8 :=
  if c.toNat = 34 ∨ c.toNat = 92 then [92, c] else if c.toNat = 10 then [92, 110] else if c.toNat = 9 then [92, 116] else if c.toNat = 13 then [92, 114]
  else if c.toNat < 32 ∨ 126 < c.toNat then [92, 120, hexb (c.toNat / 16), hexb (c.toNat % 16)] else [c]
def body (l : List UInt8) : List UInt8 := l.flatMap qb
def quoteL (l : List UInt8) : List UInt8 := 34 :: (body l ++ [34])

/-- The worth of a digit of sixteen. -/
def hexv (c : UInt8) : Option Nat := if 48 ≤ c.toNat ∧ c.toNat ≤ 57 then some (c.toNat - 48) else if 97 ≤ c.toNat ∧ c.toNat ≤ 102 then some (c.toNat - 87) else none

/-- What stands behind a backslash: the byte, and how long it is (0: nothing that may stand there). -/
def escX : List UInt8 → UInt8 × Nat
  | a :: b :: _ => match hexv a, hexv b with
    | some x, some y => (UInt8.ofNat (16 * x + y), 3)
    | _, _ => (0, 0)
  | _ => (0, 0)
def escL : List UInt8 → UInt8 × Nat
  | [] => (0, 0)
  | c :: r => if c.toNat = 92 ∨ c.toNat = 34 ∨ c.toNat = 39 then (c, 1) else if c.toNat = 110 then (10, 1) else if c.toNat = 116 then (9, 1)
    else if c.toNat = 114 then (13, 1) else if c.toNat = 120 then escX r else (0, 0)

/-- What stands between two quotes, read: the bytes, or the place that is wrong. -/
def plainF : Nat → List UInt8 → Nat → List UInt8 → Except Nat (List UInt8)
  | 0, _, _, acc => .ok acc
  | _ + 1, [], _, acc => .ok acc
  | n + 1, c :: t, i, acc =>
    if c.toNat = 92 then (if (escL t).2 = 0 then .error i else plainF n (t.drop (escL t).2) (i + 1 + (escL t).2) (acc ++ [(escL t).1]))
    else plainF n t (i + 1) (acc ++ [c])

theorem plainF_nil (n i : Nat) (acc : List UInt8) : plainF n [] i acc = .ok acc := by cases n <;> rfl

theorem byte_cases (P : Nat → Prop) (h : ∀ n, n < 256 → P n) (c : UInt8) : P c.toNat := h _ c.toNat_lt

theorem hex_ok : ∀ n, n < 256 → hexv (hexb (n / 16)) = some (n / 16) ∧ hexv (hexb (n % 16)) = some (n % 16) := by
  intro n hn
  have h : ∀ d, d < 16 → hexv (hexb d) = some d := by decide
  exact ⟨h _ (by omega), h _ (by omega)⟩

/-- ONE BYTE, QUOTED, IS READ AS IT WAS. -/
theorem step_qb (c : UInt8) (t : List UInt8) (n i : Nat) (acc : List UInt8) (hn : (qb c ++ t).length ≤ n) :
    ∃ m j, t.length ≤ m ∧ plainF n (qb c ++ t) i acc = plainF m t j (acc ++ [c]) := by
  have hlt := c.toNat_lt
  have eta : UInt8.ofNat c.toNat = c := UInt8.ofNat_toNat
  cases n with
  | zero =>
    have h : 0 < (qb c ++ t).length := by
      unfold qb; split
      · simp
      · split
        · simp
        · split
          · simp
          · split
            · simp
            · split <;> simp
    omega
  | succ n =>
    unfold qb at hn ⊢
    by_cases h1 : c.toNat = 34 ∨ c.toNat = 92
    · rw [if_pos h1] at hn ⊢
      refine ⟨n, i + 1 + 1, by simp at hn; omega, ?_⟩
      have he : escL (c :: t) = (c, 1) := by rw [escL, if_pos (by omega)]
      show plainF (n + 1) (92 :: c :: t) i acc = _
      rw [plainF, if_pos (by decide), he]
      simp
    · rw [if_neg h1] at hn ⊢
      by_cases h2 : c.toNat = 10
      · rw [if_pos h2] at hn ⊢
        refine ⟨n, i + 1 + 1, by simp at hn; omega, ?_⟩
        have hc : c = 10 := by rw [← eta, h2]; rfl
        show plainF (n + 1) (92 :: 110 :: t) i acc = _
        rw [plainF, if_pos (by decide), show escL (110 :: t) = (10, 1) from rfl, hc]
        simp
      · rw [if_neg h2] at hn ⊢
        by_cases h3 : c.toNat = 9
        · rw [if_pos h3] at hn ⊢
          refine ⟨n, i + 1 + 1, by simp at hn; omega, ?_⟩
          have hc : c = 9 := by rw [← eta, h3]; rfl
          show plainF (n + 1) (92 :: 116 :: t) i acc = _
          rw [plainF, if_pos (by decide), show escL (116 :: t) = (9, 1) from rfl, hc]
          simp
        · rw [if_neg h3] at hn ⊢
          by_cases h4 : c.toNat = 13
          · rw [if_pos h4] at hn ⊢
            refine ⟨n, i + 1 + 1, by simp at hn; omega, ?_⟩
            have hc : c = 13 := by rw [← eta, h4]; rfl
            show plainF (n + 1) (92 :: 114 :: t) i acc = _
            rw [plainF, if_pos (by decide), show escL (114 :: t) = (13, 1) from rfl, hc]
            simp
          · rw [if_neg h4] at hn ⊢
            by_cases h5 : c.toNat < 32 ∨ 126 < c.toNat
            · rw [if_pos h5] at hn ⊢
              refine ⟨n, i + 1 + 3, by simp at hn; omega, ?_⟩
              obtain ⟨x1, x2⟩ := hex_ok c.toNat hlt
              show plainF (n + 1) (92 :: 120 :: hexb (c.toNat / 16) :: hexb (c.toNat % 16) :: t) i acc = _
              have he : escL (120 :: hexb (c.toNat / 16) :: hexb (c.toNat % 16) :: t) = (c, 3) := by
                show escX (hexb (c.toNat / 16) :: hexb (c.toNat % 16) :: t) = _
                rw [escX, x1, x2]
                show (UInt8.ofNat (16 * (c.toNat / 16) + c.toNat % 16), 3) = _
                rw [show 16 * (c.toNat / 16) + c.toNat % 16 = c.toNat from by omega, eta]
              rw [plainF, if_pos (by decide), he]
              simp
            · rw [if_neg h5] at hn ⊢
              refine ⟨n, i + 1, by simp at hn; omega, ?_⟩
              show plainF (n + 1) (c :: t) i acc = _
              rw [plainF, if_neg (by omega)]

theorem plain_body (l : List UInt8) : ∀ (n i : Nat) (acc : List UInt8), (body l).length ≤ n → plainF n (body l) i acc = .ok (acc ++ l) := by
  induction l with
  | nil => intro n i acc _; show plainF n [] i acc = _; rw [plainF_nil]; simp
  | cons c l ih =>
    intro n i acc hn
    have e : body (c :: l) = qb c ++ body l := by unfold body; rw [List.flatMap_cons]
    rw [e] at hn ⊢
    obtain ⟨m, j, hm, h⟩ := step_qb c (body l) n i acc hn
    rw [h, ih m j _ hm]
    simp

theorem hexb_bounds : ∀ d, d < 16 → 32 ≤ (hexb d).toNat ∧ (hexb d).toNat ≤ 126 := by decide

/-- What is quoted can be shown. -/
theorem qb_bounds (c u : UInt8) (h : u ∈ qb c) : 32 ≤ u.toNat ∧ u.toNat ≤ 126 := by
  have hlt := c.toNat_lt
  unfold qb at h
  by_cases h1 : c.toNat = 34 ∨ c.toNat = 92
  · rw [if_pos h1] at h
    simp only [List.mem_cons, List.not_mem_nil, or_false] at h
    rcases h with rfl | rfl
    · decide
    · omega
  · rw [if_neg h1] at h
    by_cases h2 : c.toNat = 10
    · rw [if_pos h2] at h
      simp only [List.mem_cons, List.not_mem_nil, or_false] at h
      rcases h with rfl | rfl <;> decide
    · rw [if_neg h2] at h
      by_cases h3 : c.toNat = 9
      · rw [if_pos h3] at h
        simp only [List.mem_cons, List.not_mem_nil, or_false] at h
        rcases h with rfl | rfl <;> decide
      · rw [if_neg h3] at h
        by_cases h4 : c.toNat = 13
        · rw [if_pos h4] at h
          simp only [List.mem_cons, List.not_mem_nil, or_false] at h
          rcases h with rfl | rfl <;> decide
        · rw [if_neg h4] at h
          by_cases h5 : c.toNat < 32 ∨ 126 < c.toNat
          · rw [if_pos h5] at h
            simp only [List.mem_cons, List.not_mem_nil, or_false] at h
            rcases h with rfl | rfl | rfl | rfl
            · decide
            · decide
            · exact hexb_bounds _ (by omega)
            · exact hexb_bounds _ (by omega)
          · rw [if_neg h5] at h
            simp only [List.mem_cons, List.not_mem_nil, or_false] at h
            subst h; omega

theorem quoteL_bounds (l : List UInt8) (u : UInt8) (h : u ∈ quoteL l) : 32 ≤ u.toNat ∧ u.toNat ≤ 126 := by
  unfold quoteL body at h
  simp only [List.mem_cons, List.mem_append, List.mem_flatMap, List.not_mem_nil, or_false] at h
  rcases h with rfl | ⟨c, _, hc⟩ | rfl
  · decide
  · exact qb_bounds c u hc
  · decide

theorem qb_length (c : UInt8) : (qb c).length ≤ 4 := by
  unfold qb
  split
  · simp
  · split
    · simp
    · split
      · simp
      · split
        · simp
        · split <;> simp
theorem body_length (l : List UInt8) : (body l).length ≤ 4 * l.length := by
  induction l with
  | nil => simp [body]
  | cons c l ih =>
    have e : body (c :: l) = qb c ++ body l := by unfold body; rw [List.flatMap_cons]
    rw [e, List.length_append, List.length_cons]
    have := qb_length c
    omega
theorem body_snoc (l : List UInt8) (c : UInt8) : body (l ++ [c]) = body l ++ qb c := by
  unfold body; rw [List.flatMap_append]; simp

theorem escX_snd (r : List UInt8) : (escX r).2 ≤ r.length + 1 ∧ (escX r).2 ≤ 3 := by
  cases r with
  | nil => simp [escX]
  | cons a r =>
    cases r with
    | nil => simp [escX]
    | cons b r =>
      rw [escX]
      cases hexv a <;> cases hexv b <;> simp

theorem escL_snd (t : List UInt8) : (escL t).2 ≤ t.length ∧ (escL t).2 ≤ 3 := by
  cases t with
  | nil => simp [escL]
  | cons c r =>
    have := escX_snd r
    rw [escL]
    by_cases h1 : c.toNat = 92 ∨ c.toNat = 34 ∨ c.toNat = 39
    · rw [if_pos h1]; simp
    · rw [if_neg h1]
      by_cases h2 : c.toNat = 110
      · rw [if_pos h2]; simp
      · rw [if_neg h2]
        by_cases h3 : c.toNat = 116
        · rw [if_pos h3]; simp
        · rw [if_neg h3]
          by_cases h4 : c.toNat = 114
          · rw [if_pos h4]; simp
          · rw [if_neg h4]
            by_cases h5 : c.toNat = 120
            · rw [if_pos h5]; simpa using this
            · rw [if_neg h5]; simp

/-- How many bytes come of it: no more than stood there. -/
theorem plainF_length : ∀ (n : Nat) (l : List UInt8) (i : Nat) (acc out : List UInt8), plainF n l i acc = .ok out → out.length ≤ acc.length + l.length := by
  intro n
  induction n with
  | zero => intro l i acc out h; simp [plainF] at h; subst h; omega
  | succ n ih =>
    intro l i acc out h
    cases l with
    | nil => rw [plainF_nil] at h; cases h; simp
    | cons c t =>
      rw [plainF] at h
      split at h
      · split at h
        · cases h
        · rename_i h2
          have := ih _ _ _ _ h
          simp at this ⊢; omega
      · have := ih _ _ _ _ h
        simp at this ⊢; omega

theorem plainF_place : ∀ (n : Nat) (l : List UInt8) (i : Nat) (acc : List UInt8) (p : Nat), plainF n l i acc = .error p → i ≤ p ∧ p < i + l.length := by
  intro n
  induction n with
  | zero => intro l i acc p h; simp [plainF] at h
  | succ n ih =>
    intro l i acc p h
    cases l with
    | nil => rw [plainF_nil] at h; cases h
    | cons c t =>
      rw [plainF] at h
      split at h
      · split at h
        · cases h; simp
        · rename_i h2
          have h3 := ih _ _ _ _ h
          have h4 := (escL_snd t).1
          simp at h3 ⊢; omega
      · have := ih _ _ _ _ h
        simp at this ⊢; omega
end Sp
