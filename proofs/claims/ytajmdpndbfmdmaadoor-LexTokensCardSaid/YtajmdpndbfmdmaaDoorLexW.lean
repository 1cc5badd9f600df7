/-
  LexTokens on any row of tokens.
-/
import Derived.Test.YtajmdpndbfmdmaaDoorRfD
import Derived.Test.YtajmdpndbfmdmaaDoorLexF
import Derived.Deep.QuietTactic
import Derived.BigQuiet
import Derived.Laws.OwnMore
import Derived.Tactics
namespace Go.Proofs.YtajmdpndbfmdmaaDoor
open Go Go.RowKit

/-- The cells of tokens. -/
def cellsK (t : Int × Lx.Tk) : List Value := [.int .u8 t.2.1, .int .i64 t.1, .string (strOf t.2.2.1), .float .f64 t.2.2.2]
def cellsT (ts : List (Int × Lx.Tk)) : List Value := ts.flatMap cellsK
theorem cellsT_len (ts : List (Int × Lx.Tk)) : (cellsT ts).length = ts.length * 4 := by
  induction ts with
  | nil => rfl
  | cons a l ih =>
    have e : cellsT (a :: l) = cellsK a ++ cellsT l := by unfold cellsT; simp
    rw [e, List.length_append, ih, List.length_cons, show (cellsK a).length = 4 from rfl]; omega
theorem cellsT_at (l : List (Int × Lx.Tk)) : ∀ (i : Nat) (t : Int × Lx.Tk) (j : Nat), l[i]? = some t → j < 4 → (cellsT l)[i * 4 + j]? = (cellsK t)[j]? := by
  induction l with
  | nil => intro i t j h; simp at h
  | cons a l ih =>
    intro i t j h hj
    have e : cellsT (a :: l) = cellsK a ++ cellsT l := by unfold cellsT; simp
    have hlen : (cellsK a).length = 4 := rfl
    rw [e]
    cases i with
    | zero =>
      simp at h; subst h
      rw [Nat.zero_mul, Nat.zero_add, List.getElem?_append_left (by omega)]
    | succ i =>
      rw [List.getElem?_append_right (by omega), hlen, show (i + 1) * 4 + j - 4 = i * 4 + j by omega]
      exact ih i t j (by simpa using h) hj
theorem cellsK_one (t : Int × Lx.Tk) : ∀ u ∈ cellsK t, u.oneCell' = true := by
  intro u hu
  simp only [cellsK, List.mem_cons, List.not_mem_nil, or_false] at hu
  rcases hu with rfl | rfl | rfl | rfl <;> rfl
theorem cellsT_one (ts : List (Int × Lx.Tk)) : ∀ u ∈ cellsT ts, u.oneCell' = true := by
  intro u hu
  unfold cellsT at hu
  obtain ⟨t, _, h⟩ := List.mem_flatMap.1 hu
  exact cellsK_one t u h
theorem toks_cells {w : World} {g o : Nat} {ts : List (Int × Lx.Tk)}
    (hc : ∀ i t, ts[i]? = some t → w.cell? ⟨g, o + i * 4, none⟩ = some (.int .u8 t.2.1) ∧ w.cell? ⟨g, o + i * 4 + 1, none⟩ = some (.int .i64 t.1) ∧
      w.cell? ⟨g, o + i * 4 + 2, none⟩ = some (.string (strOf t.2.2.1)) ∧ w.cell? ⟨g, o + i * 4 + 3, none⟩ = some (.float .f64 t.2.2.2)) :
    ∀ j u, (cellsT ts)[j]? = some u → w.cell? ⟨g, o + j, none⟩ = some u := by
  intro j u hj
  have hlt : j < ts.length * 4 := by rw [← cellsT_len]; exact (List.getElem?_eq_some_iff.1 hj).1
  obtain ⟨t, ht⟩ : ∃ t, ts[j / 4]? = some t := ⟨_, List.getElem?_eq_getElem (by omega)⟩
  have hr : j % 4 < 4 := Nat.mod_lt _ (by decide)
  have hd : j / 4 * 4 + j % 4 = j := by omega
  have h := cellsT_at ts (j / 4) t (j % 4) ht hr
  rw [hd, hj] at h
  obtain ⟨c0, c1, c2, c3⟩ := hc _ t ht
  rw [show o + j = o + j / 4 * 4 + j % 4 from by omega]
  generalize j % 4 = r at *
  match r, hr with
  | 0, _ => exact c0.trans h.symm
  | 1, _ => exact c1.trans h.symm
  | 2, _ => exact c2.trans h.symm
  | 3, _ => exact c3.trans h.symm
/-- The token that is set behind them. -/
def mark : List Value := [.int .u8 77, .int .i64 0, .string ByteArray.empty, .float .f64 0]
theorem mark_one : ∀ u ∈ mark, u.oneCell' = true := by
  intro u hu
  simp only [mark, List.mem_cons, List.not_mem_nil, or_false] at hu
  rcases hu with rfl | rfl | rfl | rfl <;> rfl
/-- A row of the call's own of tokens and one more. -/
theorem owns_form {base n : Nat} {v : Value} {ts : List (Int × Lx.Tk)} {w : World} (h : w.ownsRow base 44 4 v (n + 1) (cellsT ts ++ mark)) (hn : n = ts.length) :
    ∃ g cap, v = .slice (some ⟨g, 0, none⟩) (n + 1) cap ∧ base ≤ g ∧ g < w.heap.size ∧ n + 1 ≤ cap ∧ w.cell? ⟨g, n * 4, none⟩ = some (.int .u8 77) ∧ Toks w (.slice (some ⟨g, 0, none⟩) n cap) ts := by
  rcases h.2 with ⟨_, e⟩ | ⟨g, cap, cur, rfl, hb, hh, h1, h2⟩
  · cases e
  · have hlt : g < w.heap.size := by
      rcases Nat.lt_or_ge g w.heap.size with hlt | hge
      · exact hlt
      · rw [Array.getElem?_eq_none hge] at hh; cases hh
    have hc : ∀ j u, (cellsT ts ++ mark)[j]? = some u → w.cell? ⟨g, j, none⟩ = some u := fun j u hj => by
      have := World.ownsRow.cells h (g := g) rfl j u hj
      rwa [Lib.add_plain, Nat.zero_add] at this
    refine ⟨g, cap, rfl, hb, hlt, h1, ?_, some ⟨g, 0, none⟩, cap, by rw [hn], by omega, ?_⟩
    · refine hc _ _ ?_
      rw [hn, ← cellsT_len, List.getElem?_append_right (Nat.le_refl _), Nat.sub_self]; rfl
    · refine .inr ⟨g, 0, rfl, hlt, fun i t hi => ?_⟩
      have hil : i < ts.length := (List.getElem?_eq_some_iff.1 hi).1
      have hj : ∀ j, j < 4 → (cellsT ts ++ mark)[0 + i * 4 + j]? = (cellsK t)[j]? := fun j hj => by
        rw [Nat.zero_add, List.getElem?_append_left (by rw [cellsT_len]; omega)]; exact cellsT_at _ i t j hi hj
      exact ⟨hc _ _ (hj 0 (by omega)), hc _ _ (hj 1 (by omega)), hc _ _ (hj 2 (by omega)), hc _ _ (hj 3 (by omega))⟩
theorem run_append_nil_empty {P : Program} {w : World} (t ty e : TypeId) (i : TypeInfo) (ht : P.underlying t = some (.slice e)) (hi : P.info? e = some i) (A : Option Addr) (c : Nat) :
    (Builtin.append_ #[t, t] ty #[.slice none 0 0, .slice A 0 c]).run P w = .ok (.slice none 0 0) w := by
  cases A <;> simp [Builtin.append_, run_underlying ht, sizeOf, typeInfo, hi, Builtin.lenOf, Builtin.firstCells, loadCells, loadCellsFrom]
theorem wpList_append_nil_empty {P : Program} {w : World} {ops : Array Oper} {rest : List Oper} {o : Oper} {a : Act} {Q : Exit → Act → World → Prop} (hgd : o.guard = none) (s x : Operand) (t : TypeId)
    (ho : o.op = .call { callee := .builtin .append, args := #[s, x], argTypes := #[t, t] })
    (e : TypeId) (i : TypeInfo) (ht : P.underlying t = some (.slice e)) (hi : P.info? e = some i) (A : Option Addr) (c : Nat) (hs : a.eval s = .slice none 0 0) (hx : a.eval x = .slice A 0 c)
    (h : wpList P ops Q rest (a.put o.dst (.slice none 0 0)) w) : wpList P ops Q (o :: rest) a w := by
  refine wpList_plain hgd fun K hK => ?_
  have hrun := run_append_nil_empty (P := P) (w := w) t o.type e i ht hi A c
  unfold Oper.wp
  simp [execOp, ho, resolve, invoke, builtin, hs, hx, hrun, Result.andThen]
  exact hK _ _ h

set_option maxHeartbeats 16000000 in
set_option maxRecDepth 100000 in
theorem lexTokens_long (n : Nat) (A : Option Addr) (cap : Nat) (w : World) (hb : n ≤ 281474976710656) (h : (1000 < n ∧ n ≤ 16385) ∨ 17000 < n) :
    Calls Tryd.prog 6 #[.slice A n cap] w fun e w' => e = .returned (.bool true) ∧ Below w.heap.size w w' := by
  have hb' : (n : Int) ≤ 281474976710656 := by omega
  rcases h with ⟨h1, h2⟩ | h1
  · have g1 : 1000 < (n : Int) := by omega
    have g2 : (n : Int) ≤ 16385 := by omega
    clear h1 h2 hb
    go_enter Tryd.func6, Tryd.ntmps6
    go_wp2
    try rw [Exit.noGoto_ret]
    go_ret
    exact ⟨rfl, Below.refl _ _⟩
  · have g1 : 1000 < (n : Int) := by omega
    have g2 : ¬ (n : Int) ≤ 16385 := by omega
    have g3 : 17000 < (n : Int) := by omega
    clear h1 hb
    go_enter Tryd.func6, Tryd.ntmps6
    go_wp2
    try rw [Exit.noGoto_ret]
    go_ret
    exact ⟨rfl, Below.refl _ _⟩

set_option maxHeartbeats 16000000 in
set_option maxRecDepth 100000 in
theorem lexTokens_none (A : Option Addr) (cap : Nat) (m : Int) (w : World) (hm : w.cell? ⟨1, 0, none⟩ = some (.int .i64 m)) (hw : 1 < w.heap.size) (htab : Lib.TabIs Tryd.prog w "internal/strconv.uint64pow10" .u64 Lib.pow10Tab) :
    Calls Tryd.prog 6 #[.slice A 0 cap] w fun e w' => e = .returned (.bool true) ∧ Below w.heap.size w w' := by
  obtain ⟨i0, hi, hz0, hz1, hz2⟩ := info_parts tok_info
  have hm' := Lib.hid hm
  have ht0 := Lib.hid htab
  have hl0 : Toks w (.slice A 0 cap) [] := ⟨A, cap, rfl, Nat.zero_le _, .inl ⟨rfl, trivial⟩⟩
  have hv' := Lib.hid hl0
  clear hl0
  obtain ⟨S, F, hT⟩ : ∃ S F, Lx.textL ([] : List Lx.Tk) = (S, F) := ⟨_, _, rfl⟩
  have q7 := Lib.hid (fun w' v hv hm hw htab => lexText_any [] v m w' hv (by simp) (by decide) hm hw htab)
  have q8 := Lib.hid (fun w' hv => refTextL_any [] (.slice A 0 cap) w' hv (by simp) (by decide))
  unfold TextOut at q7 q8
  simp only [List.map_nil] at q7 q8
  rw [hT] at q7 q8
  simp only at q7 q8
  generalize strOf S = U at q7 q8
  clear hm htab hT
  have B1 := Lib.hid (Below.refl w.heap.size w)
  have hO1 : Hid (w.ownsRow w.heap.size 44 4 (.slice none 0 0) 0 []) := Lib.hid (World.ownsRow_nil _ _ _ _)
  go_enter Tryd.func6, Tryd.ntmps6
  go_wp2_with (at_builtin; first | refine wpList_append_nil_empty rfl _ _ 42 rfl 44 i0 Tryd.underlying42 hi A cap rfl rfl ?_ | refine wpList_append_own _ rfl _ _ 42 rfl w.heap.size 44 i0 (tkA 0 0 ByteArray.empty 0) 4 40 Tryd.underlying42 hi hz0 hz1 hz2 rfl (by decide) _ _ _ rfl (hO1.out.alloc _) ⟨w.heap.size, 0, none⟩ 1 1 mark rfl rfl ?c1 ?c2 ?c3 ?c4 ?c5 ?_)
  case c1 => intro j u h; rw [Lib.add_plain, Nat.zero_add]; refine (one_cell _ _ _ j).trans ?_; rw [List.getElem?_toArray]; exact h
  case c2 => exact mark_one
  case c3 => unfold maxLen; omega
  case c4 => omega
  case c5 => first | (have := B1.out.size; simp; omega) | simp
  intro v2 w2 hown2 hgrow2 _
  have B2 := Lib.hid ((B1.out.alloc B1.out.size _).grown hgrow2 (by first | (have := B1.out.size; simp; omega) | simp) (fun k hk => (hO1.out.lt k hk).1))
  obtain ⟨g2, cap2, rfl, hb2, hg2, hcap2, hk2, hT2⟩ := owns_form (ts := []) (n := 0) hown2 rfl
  have hT2' := Lib.hid hT2
  have hk2' := Lib.hid hk2
  have hcap2' : (0 : Int) ≤ cap2 := by omega
  clear hown2 hgrow2 hk2 hT2 hcap2 hO1
  go_wp2_with fail
  refine (q7.out _ _ (hT2'.out) ?_ ?_ ?_).mono ?_
  · exact (B2.out.cell (p := ⟨1, 0, none⟩) hw).trans hm'.out
  · exact Nat.lt_of_lt_of_le hw B2.out.size
  · exact tab_below ht0.out B2.out (tab_size ht0.out)
  rintro e w3 ⟨rfl, b3⟩
  have K3 := Lib.hid b3
  have B3 := Lib.hid (B2.out.trans (b3.mono B2.out.size))
  clear b3
  go_wp2_with fail
  refine (q8.out _ (hv'.out.below B3.out)).mono ?_
  rintro e w4 ⟨rfl, b4⟩
  have K4 := Lib.hid (K3.out.trans (b4.mono K3.out.size))
  have B4 := Lib.hid (B3.out.trans (b4.mono B3.out.size))
  clear b4
  go_wp2_with fail
  go_loopw [8] (fun i wr => i = .int .i64 0 ∧ Hid (Below w.heap.size w wr) ∧ Hid (Below w2.heap.size w2 wr)) (fun _ _ => (0 : Nat))
  case atStart => exact ⟨rfl, B4, K4⟩
  case round =>
    obtain ⟨rfl, H, K⟩ := hrel
    have y0 := (K.out.cell (p := ⟨g2, 0 * 4, none⟩) hg2).trans hk2'.out
    rw [Nat.zero_mul] at y0
    go_wp2_with fail
    try rw [Exit.noGoto_ret]
    go_ret
    exact ⟨rfl, H.out⟩

set_option maxHeartbeats 16000000 in
set_option maxRecDepth 100000 in
theorem lexTokens_few (ts : List (Int × Lx.Tk)) (v : Value) (m : Int) (w : World) (hv : Toks w v ts) (hok : ∀ t ∈ ts, t.2.2.2 < 18446744073709551616 ∧ t.2.2.1.length ≤ 140737488351232) (hlen : ts.length ≤ 281474976710656)
    (hm : w.cell? ⟨1, 0, none⟩ = some (.int .i64 m)) (hw : 1 < w.heap.size) (htab : Lib.TabIs Tryd.prog w "internal/strconv.uint64pow10" .u64 Lib.pow10Tab) (h1 : 0 < ts.length) (h2 : ts.length ≤ 1000) :
    Calls Tryd.prog 6 #[v] w fun e w' => e = .returned (.bool true) ∧ Below w.heap.size w w' := by
  obtain ⟨i0, hi, hz0, hz1, hz2⟩ := info_parts tok_info
  have hm' := Lib.hid hm
  have ht0 := Lib.hid htab
  have hv' := Lib.hid hv
  have hok' := Lib.hid hok
  obtain ⟨A, cap, rfl, hcap, h⟩ := hv
  rcases h with ⟨h, _⟩ | ⟨g, o, rfl, hg, hc⟩
  · rw [h] at h1; simp at h1
  obtain ⟨n, hn⟩ : ∃ n, n = ts.length := ⟨_, rfl⟩
  rw [← hn] at hv' hcap h1 h2 ⊢
  obtain ⟨S, F, hT⟩ : ∃ S F, Lx.textL (ts.map (·.2)) = (S, F) := ⟨_, _, rfl⟩
  have q7 := Lib.hid (fun w' v hv hm hw htab => lexText_any ts v m w' hv hok'.out hlen hm hw htab)
  have q8 := Lib.hid (fun w' hv => refTextL_any ts (.slice (some ⟨g, o, none⟩) n cap) w' hv (fun t ht => (hok'.out t ht).1) hlen)
  unfold TextOut at q7 q8
  rw [hT] at q7 q8
  simp only at q7 q8
  generalize strOf S = U at q7 q8
  have hn' := Lib.hid hn
  have hc' := Lib.hid hc
  have hnb : (n : Int) ≤ 17000 := by omega
  have hcl : (cellsT ts).length = n * 4 := by rw [cellsT_len, hn]
  have hcc := Lib.hid (toks_cells hc)
  have hcl' := Lib.hid hcl
  have hcap' : (n : Int) ≤ cap := by omega
  have h0n := Lib.hid (show 0 < n from by omega)
  have g1 : ¬ 1000 < (n : Int) := by omega
  have g3 : ¬ 17000 < (n : Int) := by omega
  clear hm htab hok hT hc hn hlen hcl hcap h1 h2
  go_enter Tryd.func6, Tryd.ntmps6
  go_wp2_with (at_builtin; refine wpList_append_own _ rfl _ _ 42 rfl w.heap.size 44 i0 (tkA 0 0 ByteArray.empty 0) 4 40 Tryd.underlying42 hi hz0 hz1 hz2 rfl (by decide) _ _ _ rfl (World.ownsRow_nil _ _ _ _) ⟨g, o, none⟩ n cap (cellsT ts) rfl hcl'.out ?d1 ?d2 ?d3 ?d4 ?d5 ?_)
  case d1 => exact hcc.out
  case d2 => exact cellsT_one _
  case d3 => unfold maxLen; omega
  case d4 => omega
  try (case d5 => exact Nat.le_refl _)
  intro v1 w1 hown1 hgrow1 _
  have B1 := Lib.hid (below_grown (Below.refl w.heap.size w) (Nat.le_refl _) (Row.nil w _) hgrow1)
  obtain ⟨g1, cap1, rfl⟩ : ∃ g1 cap1, v1 = .slice (some ⟨g1, 0, none⟩) n cap1 := by
    rcases hown1.2 with ⟨_, h0⟩ | ⟨g1, cap1, cur, hv1, _⟩
    · have := h0n.out; omega
    · exact ⟨g1, cap1, hv1⟩
  have hO1 := Lib.hid hown1
  clear hown1 hgrow1
  go_wp2_with (at_builtin; refine wpList_append_own _ rfl _ _ 42 rfl w.heap.size 44 i0 (tkA 0 0 ByteArray.empty 0) 4 40 Tryd.underlying42 hi hz0 hz1 hz2 rfl (by decide) _ _ _ rfl (hO1.out.alloc _) ⟨w1.heap.size, 0, none⟩ 1 1 mark rfl rfl ?c1 ?c2 ?c3 ?c4 ?c5 ?_)
  case c1 => intro j u h; rw [Lib.add_plain, Nat.zero_add]; refine (one_cell _ _ _ j).trans ?_; rw [List.getElem?_toArray]; exact h
  case c2 => exact mark_one
  case c3 => unfold maxLen; omega
  case c4 => omega
  case c5 => first | (have := B1.out.size; simp; omega) | simp
  intro v2 w2 hown2 hgrow2 _
  have B2 := Lib.hid ((B1.out.alloc B1.out.size _).grown hgrow2 (by first | (have := B1.out.size; simp; omega) | simp) (fun k hk => (hO1.out.lt k hk).1))
  obtain ⟨g2, cap2, rfl, hb2, hg2, hcap2, hk2, hT2⟩ := owns_form hown2 hn'.out
  have hT2' := Lib.hid hT2
  have hk2' := Lib.hid hk2
  have hc2 : Hid (∀ i t, ts[i]? = some t → w2.cell? ⟨g2, i * 4, none⟩ = some (.int .u8 t.2.1) ∧ w2.cell? ⟨g2, i * 4 + 1, none⟩ = some (.int .i64 t.1) ∧ w2.cell? ⟨g2, i * 4 + 2, none⟩ = some (.string (strOf t.2.2.1)) ∧ w2.cell? ⟨g2, i * 4 + 3, none⟩ = some (.float .f64 t.2.2.2)) := by
    obtain ⟨A3, c3, e3, _, h3⟩ := hT2
    rcases h3 with ⟨h3, _⟩ | ⟨g3, o3, h4, _, h5⟩
    · exact Lib.hid (fun i t hi => by rw [h3] at hi; simp at hi)
    · injection e3 with e4 _ _
      have e5 := e4.trans h4
      injection e5 with e5
      injection e5 with e6 e7
      subst e6 e7
      exact Lib.hid (fun i t hi => by have := h5 i t hi; simpa only [Nat.zero_add] using this)
  have hcap2' : (n : Int) ≤ cap2 := by omega
  clear hown2 hgrow2 hk2 hT2 hcap2 hO1
  go_wp2_with fail
  refine (q7.out _ _ (hT2'.out) ?_ ?_ ?_).mono ?_
  · exact (B2.out.cell (p := ⟨1, 0, none⟩) hw).trans hm'.out
  · exact Nat.lt_of_lt_of_le hw B2.out.size
  · exact tab_below ht0.out B2.out (tab_size ht0.out)
  rintro e w3 ⟨rfl, b3⟩
  have K3 := Lib.hid b3
  have B3 := Lib.hid (B2.out.trans (b3.mono B2.out.size))
  clear b3
  go_wp2_with fail
  refine (q8.out _ (hv'.out.below B3.out)).mono ?_
  rintro e w4 ⟨rfl, b4⟩
  have K4 := Lib.hid (K3.out.trans (b4.mono K3.out.size))
  have B4 := Lib.hid (B3.out.trans (b4.mono B3.out.size))
  clear b4
  go_wp2_with fail
  go_loopw [8] (fun i wr => ∃ k : Nat, k ≤ n ∧ i = .int .i64 k ∧ Hid (Below w.heap.size w wr) ∧ Hid (Below w2.heap.size w2 wr)) (fun i _ => ((n : Int) - intOf i).toNat)
  case atStart => exact ⟨0, by omega, rfl, B4, K4⟩
  case round =>
    obtain ⟨k, hk, rfl, H, K⟩ := hrel
    by_cases c : (k : Int) < n
    · obtain ⟨t, ht⟩ : ∃ t, ts[k]? = some t := ⟨_, List.getElem?_eq_getElem (by have := hn'.out; omega)⟩
      obtain ⟨d0, d1, d2, d3⟩ := hc'.out k t ht
      obtain ⟨f0, f1, f2, f3⟩ := hc2.out k t ht
      have hy := (hok'.out _ (List.mem_of_getElem? ht)).1
      obtain ⟨a, kd, T, y⟩ := t
      simp only at d0 d1 d2 d3 f0 f1 f2 f3 hy
      have x0 := (H.out.cell (p := ⟨g, o + k * 4, none⟩) hg).trans d0
      have z0 := (K.out.cell (p := ⟨g2, k * 4, none⟩) hg2).trans f0
      have x1 := (H.out.cell (p := ⟨g, o + k * 4 + 1, none⟩) hg).trans d1
      have z1 := (K.out.cell (p := ⟨g2, k * 4 + 1, none⟩) hg2).trans f1
      have x2 := (H.out.cell (p := ⟨g, o + k * 4 + 2, none⟩) hg).trans d2
      have z2 := (K.out.cell (p := ⟨g2, k * 4 + 2, none⟩) hg2).trans f2
      have x3 := (H.out.cell (p := ⟨g, o + k * 4 + 3, none⟩) hg).trans d3
      have z3 := (K.out.cell (p := ⟨g2, k * 4 + 3, none⟩) hg2).trans f3
      have e0 := Fl.ord_eql hy hy
      have e1 := Fl.ord_neq hy hy
      rw [Fl.feq_self] at e0 e1
      generalize strOf T = Ts at *
      clear d0 d1 d2 d3 f0 f1 f2 f3 ht hy
      cases hN : Fl.isN y
      · rw [hN] at e0 e1
        clear hN
        go_wp2_with fail
        go_quiet (fail)
        go_wp2_with fail
        refine ⟨?_, ?_⟩
        · iterate 120 (try (refine @Exists.intro Value _ _ ?_))
          first | (refine ⟨?_, rfl⟩; exact ⟨k + 1, by omega, by go_num, Lib.hid (Below.drewN_ H.out _), Lib.hid (Below.drewN_ K.out _)⟩) | (exact ⟨k + 1, by omega, by go_num, Lib.hid (Below.drewN_ H.out _), Lib.hid (Below.drewN_ K.out _)⟩)
        · simp [intOf] <;> omega
      · rw [hN] at e0 e1
        clear hN
        go_wp2_with fail
        go_quiet (fail)
        go_wp2_with fail
        refine ⟨?_, ?_⟩
        · iterate 120 (try (refine @Exists.intro Value _ _ ?_))
          first | (refine ⟨?_, rfl⟩; exact ⟨k + 1, by omega, by go_num, Lib.hid (Below.drewN_ H.out _), Lib.hid (Below.drewN_ K.out _)⟩) | (exact ⟨k + 1, by omega, by go_num, Lib.hid (Below.drewN_ H.out _), Lib.hid (Below.drewN_ K.out _)⟩)
        · simp [intOf] <;> omega
    · have y0 := (K.out.cell (p := ⟨g2, n * 4, none⟩) hg2).trans hk2'.out
      go_wp2_with fail
      try rw [Exit.noGoto_ret]
      go_ret
      exact ⟨rfl, H.out⟩

set_option maxHeartbeats 16000000 in
set_option maxRecDepth 100000 in
theorem lexTokens_many (ts : List (Int × Lx.Tk)) (v : Value) (m : Int) (w : World) (hv : Toks w v ts) (hok : ∀ t ∈ ts, t.2.2.2 < 18446744073709551616 ∧ t.2.2.1.length ≤ 140737488351232) (hlen : ts.length ≤ 281474976710656)
    (hm : w.cell? ⟨1, 0, none⟩ = some (.int .i64 m)) (hw : 1 < w.heap.size) (htab : Lib.TabIs Tryd.prog w "internal/strconv.uint64pow10" .u64 Lib.pow10Tab) (h1 : 16385 < ts.length) (h2 : ts.length ≤ 17000) :
    Calls Tryd.prog 6 #[v] w fun e w' => e = .returned (.bool true) ∧ Below w.heap.size w w' := by
  obtain ⟨i0, hi, hz0, hz1, hz2⟩ := info_parts tok_info
  have hm' := Lib.hid hm
  have ht0 := Lib.hid htab
  have hv' := Lib.hid hv
  have hok' := Lib.hid hok
  obtain ⟨A, cap, rfl, hcap, h⟩ := hv
  rcases h with ⟨h, _⟩ | ⟨g, o, rfl, hg, hc⟩
  · rw [h] at h1; simp at h1
  obtain ⟨n, hn⟩ : ∃ n, n = ts.length := ⟨_, rfl⟩
  rw [← hn] at hv' hcap h1 h2 ⊢
  obtain ⟨S, F, hT⟩ : ∃ S F, Lx.textL (ts.map (·.2)) = (S, F) := ⟨_, _, rfl⟩
  have q7 := Lib.hid (fun w' v hv hm hw htab => lexText_any ts v m w' hv hok'.out hlen hm hw htab)
  have q8 := Lib.hid (fun w' hv => refTextL_any ts (.slice (some ⟨g, o, none⟩) n cap) w' hv (fun t ht => (hok'.out t ht).1) hlen)
  unfold TextOut at q7 q8
  rw [hT] at q7 q8
  simp only at q7 q8
  generalize strOf S = U at q7 q8
  have hn' := Lib.hid hn
  have hc' := Lib.hid hc
  have hnb : (n : Int) ≤ 17000 := by omega
  have hcl : (cellsT ts).length = n * 4 := by rw [cellsT_len, hn]
  have hcc := Lib.hid (toks_cells hc)
  have hcl' := Lib.hid hcl
  have hcap' : (n : Int) ≤ cap := by omega
  have h0n := Lib.hid (show 0 < n from by omega)
  have g1 : 1000 < (n : Int) := by omega
  have g2 : ¬ (n : Int) ≤ 16385 := by omega
  have g3 : ¬ 17000 < (n : Int) := by omega
  clear hm htab hok hT hc hn hlen hcl hcap h1 h2
  go_enter Tryd.func6, Tryd.ntmps6
  go_wp2_with (at_builtin; refine wpList_append_own _ rfl _ _ 42 rfl w.heap.size 44 i0 (tkA 0 0 ByteArray.empty 0) 4 40 Tryd.underlying42 hi hz0 hz1 hz2 rfl (by decide) _ _ _ rfl (World.ownsRow_nil _ _ _ _) ⟨g, o, none⟩ n cap (cellsT ts) rfl hcl'.out ?d1 ?d2 ?d3 ?d4 ?d5 ?_)
  case d1 => exact hcc.out
  case d2 => exact cellsT_one _
  case d3 => unfold maxLen; omega
  case d4 => omega
  try (case d5 => exact Nat.le_refl _)
  intro v1 w1 hown1 hgrow1 _
  have B1 := Lib.hid (below_grown (Below.refl w.heap.size w) (Nat.le_refl _) (Row.nil w _) hgrow1)
  obtain ⟨g1, cap1, rfl⟩ : ∃ g1 cap1, v1 = .slice (some ⟨g1, 0, none⟩) n cap1 := by
    rcases hown1.2 with ⟨_, h0⟩ | ⟨g1, cap1, cur, hv1, _⟩
    · have := h0n.out; omega
    · exact ⟨g1, cap1, hv1⟩
  have hO1 := Lib.hid hown1
  clear hown1 hgrow1
  go_wp2_with (at_builtin; refine wpList_append_own _ rfl _ _ 42 rfl w.heap.size 44 i0 (tkA 0 0 ByteArray.empty 0) 4 40 Tryd.underlying42 hi hz0 hz1 hz2 rfl (by decide) _ _ _ rfl (hO1.out.alloc _) ⟨w1.heap.size, 0, none⟩ 1 1 mark rfl rfl ?c1 ?c2 ?c3 ?c4 ?c5 ?_)
  case c1 => intro j u h; rw [Lib.add_plain, Nat.zero_add]; refine (one_cell _ _ _ j).trans ?_; rw [List.getElem?_toArray]; exact h
  case c2 => exact mark_one
  case c3 => unfold maxLen; omega
  case c4 => omega
  case c5 => first | (have := B1.out.size; simp; omega) | simp
  intro v2 w2 hown2 hgrow2 _
  have B2 := Lib.hid ((B1.out.alloc B1.out.size _).grown hgrow2 (by first | (have := B1.out.size; simp; omega) | simp) (fun k hk => (hO1.out.lt k hk).1))
  obtain ⟨g2, cap2, rfl, hb2, hg2, hcap2, hk2, hT2⟩ := owns_form hown2 hn'.out
  have hT2' := Lib.hid hT2
  have hk2' := Lib.hid hk2
  have hc2 : Hid (∀ i t, ts[i]? = some t → w2.cell? ⟨g2, i * 4, none⟩ = some (.int .u8 t.2.1) ∧ w2.cell? ⟨g2, i * 4 + 1, none⟩ = some (.int .i64 t.1) ∧ w2.cell? ⟨g2, i * 4 + 2, none⟩ = some (.string (strOf t.2.2.1)) ∧ w2.cell? ⟨g2, i * 4 + 3, none⟩ = some (.float .f64 t.2.2.2)) := by
    obtain ⟨A3, c3, e3, _, h3⟩ := hT2
    rcases h3 with ⟨h3, _⟩ | ⟨g3, o3, h4, _, h5⟩
    · exact Lib.hid (fun i t hi => by rw [h3] at hi; simp at hi)
    · injection e3 with e4 _ _
      have e5 := e4.trans h4
      injection e5 with e5
      injection e5 with e6 e7
      subst e6 e7
      exact Lib.hid (fun i t hi => by have := h5 i t hi; simpa only [Nat.zero_add] using this)
  have hcap2' : (n : Int) ≤ cap2 := by omega
  clear hown2 hgrow2 hk2 hT2 hcap2 hO1
  go_wp2_with fail
  refine (q7.out _ _ (hT2'.out) ?_ ?_ ?_).mono ?_
  · exact (B2.out.cell (p := ⟨1, 0, none⟩) hw).trans hm'.out
  · exact Nat.lt_of_lt_of_le hw B2.out.size
  · exact tab_below ht0.out B2.out (tab_size ht0.out)
  rintro e w3 ⟨rfl, b3⟩
  have K3 := Lib.hid b3
  have B3 := Lib.hid (B2.out.trans (b3.mono B2.out.size))
  clear b3
  go_wp2_with fail
  refine (q8.out _ (hv'.out.below B3.out)).mono ?_
  rintro e w4 ⟨rfl, b4⟩
  have K4 := Lib.hid (K3.out.trans (b4.mono K3.out.size))
  have B4 := Lib.hid (B3.out.trans (b4.mono B3.out.size))
  clear b4
  go_wp2_with fail
  go_loopw [8] (fun i wr => ∃ k : Nat, k ≤ n ∧ i = .int .i64 k ∧ Hid (Below w.heap.size w wr) ∧ Hid (Below w2.heap.size w2 wr)) (fun i _ => ((n : Int) - intOf i).toNat)
  case atStart => exact ⟨0, by omega, rfl, B4, K4⟩
  case round =>
    obtain ⟨k, hk, rfl, H, K⟩ := hrel
    by_cases c : (k : Int) < n
    · obtain ⟨t, ht⟩ : ∃ t, ts[k]? = some t := ⟨_, List.getElem?_eq_getElem (by have := hn'.out; omega)⟩
      obtain ⟨d0, d1, d2, d3⟩ := hc'.out k t ht
      obtain ⟨f0, f1, f2, f3⟩ := hc2.out k t ht
      have hy := (hok'.out _ (List.mem_of_getElem? ht)).1
      obtain ⟨a, kd, T, y⟩ := t
      simp only at d0 d1 d2 d3 f0 f1 f2 f3 hy
      have x0 := (H.out.cell (p := ⟨g, o + k * 4, none⟩) hg).trans d0
      have z0 := (K.out.cell (p := ⟨g2, k * 4, none⟩) hg2).trans f0
      have x1 := (H.out.cell (p := ⟨g, o + k * 4 + 1, none⟩) hg).trans d1
      have z1 := (K.out.cell (p := ⟨g2, k * 4 + 1, none⟩) hg2).trans f1
      have x2 := (H.out.cell (p := ⟨g, o + k * 4 + 2, none⟩) hg).trans d2
      have z2 := (K.out.cell (p := ⟨g2, k * 4 + 2, none⟩) hg2).trans f2
      have x3 := (H.out.cell (p := ⟨g, o + k * 4 + 3, none⟩) hg).trans d3
      have z3 := (K.out.cell (p := ⟨g2, k * 4 + 3, none⟩) hg2).trans f3
      have e0 := Fl.ord_eql hy hy
      have e1 := Fl.ord_neq hy hy
      rw [Fl.feq_self] at e0 e1
      generalize strOf T = Ts at *
      clear d0 d1 d2 d3 f0 f1 f2 f3 ht hy
      cases hN : Fl.isN y
      · rw [hN] at e0 e1
        clear hN
        go_wp2_with fail
        go_quiet (fail)
        go_wp2_with fail
        refine ⟨?_, ?_⟩
        · iterate 120 (try (refine @Exists.intro Value _ _ ?_))
          first | (refine ⟨?_, rfl⟩; exact ⟨k + 1, by omega, by go_num, Lib.hid (Below.drewN_ H.out _), Lib.hid (Below.drewN_ K.out _)⟩) | (exact ⟨k + 1, by omega, by go_num, Lib.hid (Below.drewN_ H.out _), Lib.hid (Below.drewN_ K.out _)⟩)
        · simp [intOf] <;> omega
      · rw [hN] at e0 e1
        clear hN
        go_wp2_with fail
        go_quiet (fail)
        go_wp2_with fail
        refine ⟨?_, ?_⟩
        · iterate 120 (try (refine @Exists.intro Value _ _ ?_))
          first | (refine ⟨?_, rfl⟩; exact ⟨k + 1, by omega, by go_num, Lib.hid (Below.drewN_ H.out _), Lib.hid (Below.drewN_ K.out _)⟩) | (exact ⟨k + 1, by omega, by go_num, Lib.hid (Below.drewN_ H.out _), Lib.hid (Below.drewN_ K.out _)⟩)
        · simp [intOf] <;> omega
    · have y0 := (K.out.cell (p := ⟨g2, n * 4, none⟩) hg2).trans hk2'.out
      go_wp2_with fail
      try rw [Exit.noGoto_ret]
      go_ret
      exact ⟨rfl, H.out⟩

theorem lexTokens_walk (ts : List (Int × Lx.Tk)) (v : Value) (m : Int) (w : World) (hv : Toks w v ts) (hok : ∀ t ∈ ts, t.2.2.2 < 18446744073709551616 ∧ t.2.2.1.length ≤ 140737488351232) (hlen : ts.length ≤ 281474976710656)
    (hm : w.cell? ⟨1, 0, none⟩ = some (.int .i64 m)) (hw : 1 < w.heap.size) (htab : Lib.TabIs Tryd.prog w "internal/strconv.uint64pow10" .u64 Lib.pow10Tab) :
    Calls Tryd.prog 6 #[v] w fun e w' => e = .returned (.bool true) ∧ Below w.heap.size w w' := by
  have hv0 := hv
  obtain ⟨A, cap, rfl, hcap, h⟩ := hv
  by_cases h0 : ts.length = 0
  · rw [h0]; exact lexTokens_none A cap m w hm hw htab
  · by_cases h1 : ts.length ≤ 1000
    · exact lexTokens_few ts _ m w hv0 hok hlen hm hw htab (by omega) h1
    · by_cases h2 : ts.length ≤ 16385
      · exact lexTokens_long _ A cap w hlen (.inl ⟨by omega, h2⟩)
      · by_cases h3 : ts.length ≤ 17000
        · exact lexTokens_many ts _ m w hv0 hok hlen hm hw htab (by omega) h3
        · exact lexTokens_long _ A cap w hlen (.inr (by omega))
end Go.Proofs.YtajmdpndbfmdmaaDoor
