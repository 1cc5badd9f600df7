/-
  A parameter of the type []api.Token opened to its tokens, and shut in a later world. Conditions: none.
-/
import Derived.Test.YtajmdpndbfmdmaaDoorOpn
import Derived.Test.YtajmdpndbfmdmaaDoorLexJ
import Derived.Deep.Slices
namespace Go.Proofs.YtajmdpndbfmdmaaDoor
open Go Go.ChangeShapes Go.WideShapes Go.RowKit Go.Joins Go.Deep

section
variable {H : Type} {enc : TypeId × Value → H} {w : World} {base : Nat} {spare : Nat → Bool} {held : Bool}

def tokD (k : Int) (a : Int) (s : ByteArray) (x : Nat) : DataW H := .agg [.lit (.int .u8 k), .lit (.int .i64 a), .lit (.string s.data.toList), .lit (.float .f64 x)]

set_option maxRecDepth 100000 in
theorem open_tok {fuel : Nat} {cs : List Value} {x : DataW H × List MemPlace} (h : DataW.trod enc Tryd.prog w base spare held fuel 44 cs = some x) :
    ∃ (k : Int) (a : Int) (s : ByteArray) (y : Nat), cs = [.int .u8 k, .int .i64 a, .string s, .float .f64 y] ∧ x = (tokD k a s y, []) ∧ (Lit.int .u8 k).wf = true ∧ (Lit.int .i64 a).wf = true ∧ s.size ≤ maxLen ∧ (Lit.float .f64 y).wf = true := by
  obtain ⟨xs, n, _, rfl, hlen, hxl, hf⟩ := DataW.trod_struct Tryd.underlying44 h
  have hlen' : cs.length = 4 := hlen.trans (by kernel_rfl)
  match cs, hlen' with
  | [c0, c1, c2, c3], _ =>
    match xs, hxl with
    | [y0, y1, y2, y3], _ =>
      have f0 : DataW.trod enc Tryd.prog w base spare held n 5 (List.take (Tryd.prog.cellsOf 5) (List.drop 0 [c0, c1, c2, c3])) = some y0 := hf 0 _ rfl
      have f1 : DataW.trod enc Tryd.prog w base spare held n 3 (List.take (Tryd.prog.cellsOf 3) (List.drop 1 [c0, c1, c2, c3])) = some y1 := hf 1 _ rfl
      have f2 : DataW.trod enc Tryd.prog w base spare held n 9 (List.take (Tryd.prog.cellsOf 9) (List.drop 2 [c0, c1, c2, c3])) = some y2 := hf 2 _ rfl
      have f3 : DataW.trod enc Tryd.prog w base spare held n 22 (List.take (Tryd.prog.cellsOf 22) (List.drop 3 [c0, c1, c2, c3])) = some y3 := hf 3 _ rfl
      rw [show Tryd.prog.cellsOf 5 = 1 from by kernel_rfl] at f0
      rw [show Tryd.prog.cellsOf 3 = 1 from by kernel_rfl] at f1
      rw [show Tryd.prog.cellsOf 9 = 1 from by kernel_rfl] at f2
      rw [show Tryd.prog.cellsOf 22 = 1 from by kernel_rfl] at f3
      obtain ⟨k, e0, rfl, w0⟩ := DataW.trod_int Tryd.underlying5 f0
      obtain ⟨a, e1, rfl, w1⟩ := DataW.trod_int Tryd.underlying3 f1
      obtain ⟨s, e2, rfl, w2⟩ := DataW.trod_string Tryd.underlying9 f2
      obtain ⟨y, e3, rfl, w3⟩ := trod_float Tryd.underlying22 f3
      simp only [List.drop_zero, List.drop_succ_cons, List.take_succ_cons, List.take_zero, List.cons.injEq, and_true] at e0 e1 e2 e3
      subst e0 e1 e2 e3
      exact ⟨k, a, s, y, rfl, rfl, w0, w1, w2, w3⟩

set_option maxRecDepth 100000 in
theorem shut_tok {k : Int} {a : Int} {s : ByteArray} {y : Nat} (w0 : (Lit.int .u8 k).wf = true) (w1 : (Lit.int .i64 a).wf = true) (w2 : s.size ≤ maxLen) (w3 : (Lit.float .f64 y).wf = true) :
    ∃ n, DataW.trod enc Tryd.prog w base spare held n 44 [.int .u8 k, .int .i64 a, .string s, .float .f64 y] = some (tokD k a s y, []) := by
  have h := shut_agg4 (enc := enc) (w := w) (base := base) (spare := spare) (held := held) (y0 := (.lit (.int .u8 k), [])) (y1 := (.lit (.int .i64 a), [])) (y2 := (.lit (.string s.data.toList), [])) (y3 := (.lit (.float .f64 y), [])) (v0 := .int .u8 k) (v1 := .int .i64 a) (v2 := .string s) (v3 := .float .f64 y) Tryd.underlying44 (by kernel_rfl) (by kernel_rfl)
    (by obtain ⟨f, hf⟩ := shut_int (enc := enc) (w := w) (base := base) (spare := spare) (held := held) Tryd.underlying5 w0; exact ⟨f, hf⟩)
    (by obtain ⟨f, hf⟩ := shut_int (enc := enc) (w := w) (base := base) (spare := spare) (held := held) Tryd.underlying3 w1; exact ⟨f, hf⟩)
    (by obtain ⟨f, hf⟩ := Go.ChangeMaps.shut_string (enc := enc) (w := w) (base := base) (sp := spare) (held := held) Tryd.underlying9 w2; exact ⟨f, hf⟩)
    (by obtain ⟨f, hf⟩ := shut_float (enc := enc) (w := w) (base := base) (spare := spare) (held := held) Tryd.underlying22 w3; exact ⟨f, hf⟩)
  exact h
end

theorem cells_below {w w' : World} {b : Nat} {a : Addr} {n : Nat} (h : Below w.heap.size w w') (ha : a.block < w.heap.size) : w'.cells? b a n = w.cells? b a n := by
  unfold World.cells?
  split
  · congr 1
    funext i
    exact h.cell (p := a.add i) (by unfold Addr.add; split <;> exact ha)
  · rfl

theorem weights_mem {H : Type} {e : TypeId} {x : Nat} {d : DataW H} (hx : x ∈ DataW.weights Tryd.prog e d) : ∀ {l : List (DataW H)}, d ∈ l → x ∈ DataW.weightsAll Tryd.prog e l
  | a :: l, h => by
    rw [DataW.weightsAll]
    rcases List.mem_cons.1 h with rfl | h
    · exact List.mem_append_left _ hx
    · exact List.mem_append_right _ (weights_mem hx h)
set_option maxRecDepth 100000 in
theorem tok_weights {H : Type} {k a : Int} {s : ByteArray} {y : Nat} {l r : List (DataW H)} (h : tokD k a s y ∈ l) : s.data.toList.length ∈ DataW.weights Tryd.prog 42 (.slice l r) := by
  have h1 : s.data.toList.length ∈ DataW.weights Tryd.prog 44 (tokD (H := H) k a s y) := by
    unfold tokD
    rw [DataW.weights, Tryd.underlying44]
    simp [DataW.weightsEach, DataW.weights]
  rw [DataW.weights, Tryd.underlying42]
  exact List.mem_cons_of_mem _ (List.mem_append_left _ (weights_mem h1 h))

theorem row_weights {H : Type} (l r : List (DataW H)) : (l.length + r.length) * 40 ∈ DataW.weights Tryd.prog 42 (.slice l r) := by
  rw [DataW.weights, Tryd.underlying42]
  simp only []
  rw [show Tryd.prog.bytesOf 44 = 40 from by kernel_rfl]
  exact List.mem_cons_self

set_option maxRecDepth 100000 in
/-- A parameter of the type []api.Token: its tokens, and that it reads again in every later world. -/
theorem open_toks {H : Type} {enc : TypeId × Value → H} {W : World} {v : Value} {d : DataW H} {p : List MemPlace} (hok : Value.okWide Tryd.prog W .any 0 42 v) (h : DataW.Trod enc Tryd.prog W 0 (fun _ => true) true 42 v d p) :
    ∃ ts : List (Int × Lx.Tk), Toks W v ts ∧ (∀ t ∈ ts, t.2.2.2 < 18446744073709551616) ∧ (∀ t ∈ ts, t.2.1 ≤ 255) ∧ (∀ B : Nat, (DataW.weights Tryd.prog 42 d).all (fun x => decide (x ≤ B)) = true → ts.length ≤ B) ∧
      (∀ t ∈ ts, ∀ B : Nat, (DataW.weights Tryd.prog 42 d).all (fun x => decide (x ≤ B)) = true → t.2.2.1.length ≤ B) ∧
      ∀ W', Below W.heap.size W W' → ∃ pa, DataW.Trod enc Tryd.prog W' 0 (fun b => decide (b < W.heap.size)) true 42 v d pa := by
  have hslice := okWide_slice Tryd.underlying42 hok
  obtain ⟨A0, n0, c0, rfl⟩ := hslice
  obtain ⟨fuel, hf⟩ := h
  rcases open_slice Tryd.underlying42 hf with ⟨hc, hx⟩ | ⟨a, len, cap, m, n, D, Pl, hc, hb, hl, hm, hmm, hx, hi⟩
  · have hc' : Value.slice A0 n0 c0 = .slice none 0 0 := by simpa [Value.cells] using hc
    injection hc' with h1 h2 h3
    subst h1 h2 h3
    obtain ⟨rfl, rfl⟩ := Prod.mk.inj hx
    refine ⟨[], ⟨none, 0, rfl, by simp, .inl ⟨rfl, trivial⟩⟩, by simp, by simp, by simp, by simp, fun W' _ => ⟨[], 1, ?_⟩⟩
    simp [DataW.trod, Tryd.underlying42, Value.cells]
  · have hc' : Value.slice A0 n0 c0 = .slice (some a) len cap := by simpa [Value.cells] using hc
    injection hc' with h1 h2 h3
    subst h1 h2 h3
    obtain ⟨rfl, rfl⟩ := Prod.mk.inj hx
    simp only [if_true] at hmm
    subst hmm
    have hcs : Tryd.prog.cellsOf 44 = 4 := by kernel_rfl
    rw [hcs] at hi
    have hT : ∀ i, i < m → ∃ (k : Int) (at' : Int) (s : ByteArray) (y : Nat), W.cells? 0 (a.add (i * 4)) 4 = some [.int .u8 k, .int .i64 at', .string s, .float .f64 y] ∧ (D i, Pl i) = (tokD k at' s y, []) ∧ (Lit.int .u8 k).wf = true ∧ (Lit.int .i64 at').wf = true ∧ s.size ≤ maxLen ∧ (Lit.float .f64 y).wf = true := by
      intro i hlt
      obtain ⟨cs', h1, h2⟩ := hi i hlt
      obtain ⟨k, at', s, y, rfl, e, w0, w1, w2, w3⟩ := open_tok h2
      exact ⟨k, at', s, y, h1, e, w0, w1, w2, w3⟩
    obtain ⟨K, AT, S, Y, hK⟩ : ∃ (K : Nat → Int) (AT : Nat → Int) (S : Nat → ByteArray) (Y : Nat → Nat), ∀ i, i < m → W.cells? 0 (a.add (i * 4)) 4 = some [.int .u8 (K i), .int .i64 (AT i), .string (S i), .float .f64 (Y i)] ∧ (D i, Pl i) = (tokD (K i) (AT i) (S i) (Y i), []) ∧ (Lit.int .u8 (K i)).wf = true ∧ (Lit.int .i64 (AT i)).wf = true ∧ (S i).size ≤ maxLen ∧ (Lit.float .f64 (Y i)).wf = true := by
      refine ⟨fun i => if h : i < m then (hT i h).choose else 0, fun i => if h : i < m then (hT i h).choose_spec.choose else 0, fun i => if h : i < m then (hT i h).choose_spec.choose_spec.choose else ByteArray.empty, fun i => if h : i < m then (hT i h).choose_spec.choose_spec.choose_spec.choose else 0, fun i h => ?_⟩
      simp only [dif_pos h]
      exact (hT i h).choose_spec.choose_spec.choose_spec.choose_spec
    have hcell : ∀ i j, i < m → j < 4 → W.cell? (a.add (i * 4 + j)) = ([.int .u8 (K i), .int .i64 (AT i), .string (S i), .float .f64 (Y i)] : List Value)[j]? := by
      intro i j hlt hj
      have := (World.cells?_some (hK i hlt).1).2.2 j hj
      rwa [add_add] at this
    have hkn : ∀ i, i < m → ((K i).toNat : Int) = K i ∧ (K i).toNat ≤ 255 := fun i hlt => by have := wf_u8 (hK i hlt).2.2.1; omega
    have hblk : 0 < m → a.block < W.heap.size ∧ a.spot = none := fun h0 => by
      have h := hcell 0 0 h0 (by decide)
      have h' : W.cell? a = some (.int .u8 (K 0)) := by simpa [Addr.add] using h
      exact ⟨World.block_lt_of_cell? W _ h', World.cell?_spot h'⟩
    have hget : ∀ i t, ((List.range n0).map fun i => ((AT i, (K i).toNat, (S i).data.toList, Y i) : Int × Lx.Tk))[i]? = some t → i < n0 ∧ t = (AT i, (K i).toNat, (S i).data.toList, Y i) := by
      intro i t hi
      rw [List.getElem?_map] at hi
      obtain ⟨u, hu, rfl⟩ := Option.map_eq_some_iff.1 hi
      obtain ⟨h1, h2⟩ := List.getElem?_eq_some_iff.1 hu
      rw [List.length_range] at h1
      rw [List.getElem_range] at h2
      subst h2
      exact ⟨h1, rfl⟩
    have hmem : ∀ t ∈ ((List.range n0).map fun i => ((AT i, (K i).toNat, (S i).data.toList, Y i) : Int × Lx.Tk)), ∃ i, i < n0 ∧ t = (AT i, (K i).toNat, (S i).data.toList, Y i) := by
      intro t ht
      obtain ⟨i, hi, rfl⟩ := List.mem_map.1 ht
      exact ⟨i, List.mem_range.1 hi, rfl⟩
    have hlen : ((List.range n0).map fun i => ((AT i, (K i).toNat, (S i).data.toList, Y i) : Int × Lx.Tk)).length = n0 := by simp
    refine ⟨(List.range n0).map fun i => (AT i, (K i).toNat, (S i).data.toList, Y i), ⟨some a, m, by rw [hlen], by rw [hlen]; exact hl, ?_⟩, ?_, ?_, ?_, ?_, ?_⟩
    · rcases Nat.eq_zero_or_pos n0 with rfl | h0
      · exact .inl ⟨rfl, trivial⟩
      · obtain ⟨h1, h2⟩ := hblk (by omega)
        obtain ⟨g, o, sp⟩ := a
        simp only at h1 h2
        subst h2
        refine .inr ⟨g, o, rfl, h1, fun i t hi => ?_⟩
        obtain ⟨hlt, rfl⟩ := hget i t hi
        have hk := (hkn i (by omega)).1
        have e := fun j hj => hcell i j (by omega) hj
        refine ⟨?_, ?_, ?_, ?_⟩
        · have := e 0 (by decide); rw [Go.WideShapes.add_plain] at this; simp only [hk]; exact this
        · have := e 1 (by decide); rw [Go.WideShapes.add_plain] at this; exact this
        · have := e 2 (by decide); rw [Go.WideShapes.add_plain] at this; exact this
        · have := e 3 (by decide); rw [Go.WideShapes.add_plain] at this; exact this
    · intro t ht
      obtain ⟨i, hlt, rfl⟩ := hmem t ht
      exact float_lt (hK i (by omega)).2.2.2.2.2
    · intro t ht
      obtain ⟨i, hlt, rfl⟩ := hmem t ht
      exact (hkn i (by omega)).2
    · intro B hB
      rw [hlen]
      have h1 := (List.all_eq_true.1 hB) _ (row_weights ((List.range n0).map D) ((List.range (m - n0)).map fun j => D (n0 + j)))
      have h2 := of_decide_eq_true h1
      simp only [List.length_map, List.length_range] at h2
      omega
    · intro t ht B hB
      obtain ⟨i, hlt, rfl⟩ := hmem t ht
      have hD : D i = tokD (K i) (AT i) (S i) (Y i) := (Prod.mk.inj (hK i (by omega)).2.1).1
      have h1 := (List.all_eq_true.1 hB) (S i).data.toList.length (tok_weights (by rw [← hD]; exact List.mem_map.2 ⟨i, List.mem_range.2 hlt, rfl⟩))
      exact of_decide_eq_true h1
    · intro W' hb'
      rcases Nat.eq_zero_or_pos m with h0 | h0
      · subst h0
        obtain rfl : n0 = 0 := by omega
        by_cases hs : a.block < W.heap.size
        · exact ⟨_, shut_slice_whole (enc := enc) Tryd.underlying42 (Nat.zero_le _) hl hm (by simpa using hs) D Pl (fun i hlt => absurd hlt (Nat.not_lt_zero _))⟩
        · exact ⟨_, shut_slice (enc := enc) Tryd.underlying42 (Nat.zero_le _) hl hm (by simpa using hs) D Pl (fun i hlt => absurd hlt (Nat.not_lt_zero _))⟩
      · obtain ⟨h1, h2⟩ := hblk h0
        refine ⟨_, shut_slice_whole (enc := enc) Tryd.underlying42 (Nat.zero_le _) hl hm (by simpa using h1) D Pl (fun i hlt => ?_)⟩
        obtain ⟨e1, e2, w0, w1, w2, w3⟩ := hK i hlt
        obtain ⟨n, hn⟩ := shut_tok (enc := enc) (w := W') (base := 0) (spare := fun b => decide (b < W.heap.size)) (held := true) w0 w1 w2 w3
        refine ⟨_, n, ?_, hn.trans (by rw [e2])⟩
        rw [hcs, cells_below hb' (by unfold Addr.add; split <;> exact h1)]
        exact e1
end Go.Proofs.YtajmdpndbfmdmaaDoor
