/-
  lex.Text on any row of tokens.
-/
import Derived.Test.YtajmdpndbfmdmaaDoorLexK
namespace Go.Proofs.YtajmdpndbfmdmaaDoor
open Go Go.RowKit

theorem textL_snoc (l : List Lx.Tk) (z : Lx.Tk) : Lx.textL (l ++ [z]) = if 16385 < l.length + 1 then ([], 4) else if Lx.endB z = false then ([], 5) else if l.all Lx.okB = false then ([], 5) else if 65536 < (Lx.joinL l).length then ([], 3) else (Lx.joinL l, 0) := by
  unfold Lx.textL
  rw [List.getLast?_concat, List.dropLast_concat, List.length_append]
  rfl

theorem snoc_or {α : Type} (l : List α) : l = [] ∨ ∃ a z, l = a ++ [z] := by
  rcases List.eq_nil_or_concat l with h | ⟨a, z, h⟩
  · exact .inl h
  · exact .inr ⟨a, z, by rw [h, List.concat_eq_append]⟩
theorem lexText_any (ts : List (Int × Lx.Tk)) (v : Value) (m : Int) (w : World) (hv : Toks w v ts) (hok : ∀ t ∈ ts, t.2.2.2 < 18446744073709551616 ∧ t.2.2.1.length ≤ 140737488351232) (hlen : ts.length ≤ 281474976710656)
    (hm : w.cell? ⟨1, 0, none⟩ = some (.int .i64 m)) (hw : 1 < w.heap.size) (htab : Lib.TabIs Tryd.prog w "internal/strconv.uint64pow10" .u64 Lib.pow10Tab) :
    Calls Tryd.prog 37 #[v] w (TextOut (ts.map (·.2)) w) := by
  obtain ⟨A, cap, rfl, hcap, h⟩ := hv
  rcases snoc_or ts with rfl | ⟨its, z, rfl⟩
  · exact text_none A cap w
  · rcases h with ⟨h, _⟩ | ⟨g, o, rfl, hg, hc⟩
    · simp at h
    · by_cases h4 : 16385 < (its ++ [z]).length
      · exact text_many _ _ _ _ w (by rw [List.length_map]) h4 hlen
      · have hn : (its ++ [z]).length = its.length + 1 := by simp
        rw [hn] at h4 hcap ⊢
        obtain ⟨c0, c1, c2, c3⟩ := hc its.length z (by simp)
        obtain ⟨hz1, hz2⟩ := hok z (by simp)
        unfold TextOut
        rw [List.map_append, List.map_singleton, textL_snoc, List.length_map, if_neg h4]
        cases hE : Lx.endB z.2 with
        | false =>
          rw [if_pos rfl]
          exact text_noend g o its.length cap z.2.1 (strOf z.2.2.1) z.2.2.2 w hz1 (by omega) c0 c2 c3 hE
        | true =>
          rw [if_neg (by decide)]
          have hE' := hE
          unfold Lx.endB at hE'
          simp only [Bool.and_eq_true, decide_eq_true_eq] at hE'
          obtain ⟨⟨e0, e1⟩, e2⟩ := hE'
          have e1' : z.2.2.1 = [] := by simpa using e1
          rw [e0] at c0
          rw [e1'] at c2
          refine (text_end g o its.length cap z.2.2.2 its m w hz1 (by omega) rfl hcap c0 c2 c3 e2 hg (fun i t hi => hc i t (by rw [List.getElem?_append_left (List.getElem?_eq_some_iff.1 hi).1]; exact hi)) (fun t ht => hok t (by simp [ht])) hm hw htab).mono ?_
          rintro e w' ⟨s, f, rfl, hb, hr⟩
          refine ⟨?_, hb⟩
          unfold TextR at hr
          split at hr
          · rename_i h1; obtain ⟨rfl, rfl⟩ := hr; rw [if_pos h1]
          · rename_i h1
            rw [if_neg h1]
            split at hr
            · rename_i h2; obtain ⟨rfl, rfl⟩ := hr; rw [if_pos h2]
            · rename_i h2; obtain ⟨rfl, rfl⟩ := hr; rw [if_neg h2]
end Go.Proofs.YtajmdpndbfmdmaaDoor
