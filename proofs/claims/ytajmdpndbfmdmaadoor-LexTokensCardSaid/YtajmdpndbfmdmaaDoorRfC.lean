/-
  bailiffref03.Check tells what is wrong with tokens. Conditions: the numbers are words of 64 bits.
-/
import Derived.Test.YtajmdpndbfmdmaaDoorRfB
import Derived.Test.YtajmdpndbfmdmaaDoorLexL
namespace Go.Proofs.YtajmdpndbfmdmaaDoor
open Go Go.RowKit

/-- What is wrong with tokens. -/
def Lx.checkL (ts : List Lx.Tk) : Nat :=
  if 16385 < ts.length then 4
  else if (match ts.getLast? with | some t => Lx.endB t | none => false) = false then 5
  else if ts.dropLast.all Lx.okB = false then 5 else 0
theorem checkL_snoc (l : List Lx.Tk) (z : Lx.Tk) : Lx.checkL (l ++ [z]) = if 16385 < l.length + 1 then 4 else if Lx.endB z = false then 5 else if l.all Lx.okB = false then 5 else 0 := by
  unfold Lx.checkL
  rw [List.getLast?_concat, List.dropLast_concat, List.length_append]
  rfl
/-- What bailiffref03.Check gives. -/
def CheckOut (ts : List Lx.Tk) (w : World) (e : Ending) (w' : World) : Prop := e = .returned (.int .i64 (Lx.checkL ts)) ∧ Below w.heap.size w w'

set_option maxHeartbeats 4000000 in
set_option maxRecDepth 100000 in
theorem check_none (A : Option Addr) (cap : Nat) (w : World) : Calls Tryd.prog 94 #[.slice A 0 cap] w (CheckOut [] w) := by
  unfold CheckOut
  rw [show Lx.checkL [] = 5 from rfl]
  go_enter Tryd.func94, Tryd.ntmps94
  go_wp2
  go_ret
  exact ⟨rfl, Below.refl _ _⟩

set_option maxHeartbeats 4000000 in
set_option maxRecDepth 100000 in
theorem check_many (A : Option Addr) (n cap : Nat) (ts : List Lx.Tk) (w : World) (hn : ts.length = n) (h : 16385 < n) (hb : n ≤ 281474976710656) : Calls Tryd.prog 94 #[.slice A n cap] w (CheckOut ts w) := by
  unfold CheckOut
  rw [show Lx.checkL ts = 4 from by unfold Lx.checkL; rw [if_pos (by omega)]]
  have h1 : 16385 < (n : Int) := by omega
  have hb' : (n : Int) ≤ 281474976710656 := by omega
  clear hn hb
  go_enter Tryd.func94, Tryd.ntmps94
  go_wp2
  go_ret
  exact ⟨rfl, Below.refl _ _⟩

set_option maxHeartbeats 4000000 in
set_option maxRecDepth 100000 in
theorem check_noend (g o n cap : Nat) (k : Nat) (T : ByteArray) (x : Nat) (w : World) (hx : x < 18446744073709551616) (hn : n ≤ 16384)
    (c0 : w.cell? ⟨g, o + n * 4, none⟩ = some (.int .u8 k)) (c2 : w.cell? ⟨g, o + n * 4 + 2, none⟩ = some (.string T)) (c3 : w.cell? ⟨g, o + n * 4 + 3, none⟩ = some (.float .f64 x))
    (hbad : Lx.endB (k, T.data.toList, x) = false) :
    Calls Tryd.prog 94 #[.slice (some ⟨g, o, none⟩) (n + 1) cap] w fun e w' => e = .returned (.int .i64 5) ∧ Below w.heap.size w w' := by
  have h1 : (n : Int) ≤ 16384 := by omega
  have h2 : ((n : Int) + 1 == 0) = false := by rw [beq_eq_false_iff_ne]; omega
  unfold Lx.endB at hbad
  simp only at hbad
  by_cases hk : k = 0
  · subst hk
    by_cases h0 : T.size = 0
    · obtain rfl := empty_of h0
      rw [show ByteArray.empty.data.toList.isEmpty = true from rfl] at hbad
      have e1 := Fl.ord_neq hx (y := 0) (by decide)
      rw [zero_feq hx, show Lx.zero x = false from by simpa using hbad] at e1
      clear hbad h0 hx
      go_enter Tryd.func94, Tryd.ntmps94
      go_wp2
      go_ret
      exact ⟨rfl, Below.refl _ _⟩
    · have he := isEmpty_of h0
      have hne : T.toList ≠ [] := by intro e; rw [e] at he; cases he
      clear hbad h0 hx he
      go_enter Tryd.func94, Tryd.ntmps94
      go_wp2
      go_ret
      exact ⟨rfl, Below.refl _ _⟩
  · have hk2 : ((k : Int) == 0) = false := by rw [beq_eq_false_iff_ne]; omega
    clear hbad hx
    go_enter Tryd.func94, Tryd.ntmps94
    go_wp2
    go_ret
    exact ⟨rfl, Below.refl _ _⟩

set_option maxHeartbeats 4000000 in
set_option maxRecDepth 100000 in
theorem check_end (g o n cap : Nat) (x : Nat) (its : List (Int × Lx.Tk)) (w : World) (hx : x < 18446744073709551616) (hn : n ≤ 16384) (hin : its.length = n) (hcap : n + 1 ≤ cap)
    (c0 : w.cell? ⟨g, o + n * 4, none⟩ = some (.int .u8 0)) (c2 : w.cell? ⟨g, o + n * 4 + 2, none⟩ = some (.string ⟨#[]⟩)) (c3 : w.cell? ⟨g, o + n * 4 + 3, none⟩ = some (.float .f64 x)) (hz : Lx.zero x = true)
    (hg : g < w.heap.size)
    (hc : ∀ i t, its[i]? = some t → w.cell? ⟨g, o + i * 4, none⟩ = some (.int .u8 t.2.1) ∧ w.cell? ⟨g, o + i * 4 + 1, none⟩ = some (.int .i64 t.1) ∧
      w.cell? ⟨g, o + i * 4 + 2, none⟩ = some (.string (strOf t.2.2.1)) ∧ w.cell? ⟨g, o + i * 4 + 3, none⟩ = some (.float .f64 t.2.2.2))
    (hok : ∀ t ∈ its, t.2.2.2 < 18446744073709551616) :
    Calls Tryd.prog 94 #[.slice (some ⟨g, o, none⟩) (n + 1) cap] w fun e w' => e = .returned (.int .i64 ((if (its.map (·.2)).all Lx.okB = false then 5 else 0 : Nat) : Int)) ∧ Below w.heap.size w w' := by
  have h1 : (n : Int) ≤ 16384 := by omega
  have h1' : (n : Int) ≤ cap := by omega
  have h2 : ((n : Int) + 1 == 0) = false := by rw [beq_eq_false_iff_ne]; omega
  have e1 := Fl.ord_neq hx (y := 0) (by decide)
  rw [zero_feq hx, hz] at e1
  have hc' := Lib.hid hc
  have hok' := Lib.hid hok
  obtain ⟨R, hR⟩ : ∃ R : Nat, R = if (its.map (·.2)).all Lx.okB = false then 5 else 0 := ⟨_, rfl⟩
  rw [← hR]
  have hbad := Lib.hid (fun (h : (its.map (·.2)).all Lx.okB = false) => show R = 5 from by rw [hR, if_pos h])
  have hgood := Lib.hid (fun (h : (its.map (·.2)).all Lx.okB = true) => show R = 0 from by rw [hR, if_neg (by rw [h]; decide)])
  clear hc hok hx hz hR
  go_enter Tryd.func94, Tryd.ntmps94
  go_wp2_with fail
  go_loopw [4] (fun i wr => ∃ k : Nat, k ≤ n ∧ i = .int .i64 k ∧ Hid (Below w.heap.size w wr ∧ ((its.take k).map (·.2)).all Lx.okB = true)) (fun i _ => ((n : Int) - intOf i).toNat)
  case atStart => exact ⟨0, by omega, rfl, Lib.hid ⟨Below.refl _ _, rfl⟩⟩
  case round =>
    obtain ⟨k, hk, rfl, H⟩ := hrel
    by_cases c : (k : Int) < n
    · obtain ⟨t, ht⟩ : ∃ t, its[k]? = some t := ⟨_, List.getElem?_eq_getElem (by omega)⟩
      obtain ⟨d0, d1, d2, d3⟩ := hc'.out k t ht
      obtain ⟨a, kd, T, y⟩ := t
      simp only at d0 d1 d2 d3
      have w0 := (H.out.1.cell (p := ⟨g, o + k * 4, none⟩) hg).trans d0
      have w1 := (H.out.1.cell (p := ⟨g, o + k * 4 + 1, none⟩) hg).trans d1
      have w2 := (H.out.1.cell (p := ⟨g, o + k * 4 + 2, none⟩) hg).trans d2
      have w3 := (H.out.1.cell (p := ⟨g, o + k * 4 + 3, none⟩) hg).trans d3
      clear d0 d1 d2 d3
      have hy := hok'.out _ (List.mem_of_getElem? ht)
      simp only at hy
      have q := Lib.hid (fun w' => refOne_any kd a (strOf T) y w' hy)
      have hs1 : (its.take (k + 1)).map (·.2) = (its.take k).map (·.2) ++ [(kd, T, y)] := by rw [List.take_add_one, ht]; simp
      unfold tkA at q
      rw [strOf_list] at q
      have hmem : ((kd, T, y) : Lx.Tk) ∈ its.map (·.2) := List.mem_map.2 ⟨_, List.mem_of_getElem? ht, rfl⟩
      cases hV : Lx.okB (kd, T, y)
      · rw [hV] at q
        have hr := Lib.hid (hbad.out (by rw [Bool.eq_false_iff]; intro h; rw [List.all_eq_true] at h; rw [h _ hmem] at hV; cases hV))
        clear hy hs1 hmem hV ht
        go_wp2_with fail
        refine (q.out _).mono ?_
        rintro e w5 ⟨rfl, b5⟩
        have B5 := Lib.hid (H.out.1.trans (b5.mono H.out.1.size))
        clear b5
        go_wp2
        try rw [Exit.noGoto_ret]
        go_ret
        exact ⟨by rw [hr.out]; rfl, B5.out⟩
      · rw [hV] at q
        have hnext := Lib.hid (show (List.map (·.2) (its.take (k + 1))).all Lx.okB = true from by rw [hs1, List.all_append, H.out.2]; simp [hV])
        clear hy hs1 hmem hV ht
        go_wp2_with fail
        refine (q.out _).mono ?_
        rintro e w5 ⟨rfl, b5⟩
        have B5 := Lib.hid (H.out.1.trans (b5.mono H.out.1.size))
        clear b5
        go_wp2_with fail
        go_roundw
        case rel => exact ⟨k + 1, by omega, by go_num, Lib.hid ⟨B5.out, hnext.out⟩⟩
        case measure => simp [intOf]; omega
    · have hkn : n = k := by omega
      have hr := Lib.hid (hgood.out (by have h := H.out.2; rwa [List.take_of_length_le (by omega)] at h))
      clear hkn hk
      go_wp2
      try rw [Exit.noGoto_ret]
      go_ret
      exact ⟨by rw [hr.out]; rfl, H.out.1⟩

theorem refCheck_any (ts : List (Int × Lx.Tk)) (v : Value) (w : World) (hv : Toks w v ts) (hok : ∀ t ∈ ts, t.2.2.2 < 18446744073709551616) (hlen : ts.length ≤ 281474976710656) :
    Calls Tryd.prog 94 #[v] w (CheckOut (ts.map (·.2)) w) := by
  obtain ⟨A, cap, rfl, hcap, h⟩ := hv
  rcases snoc_or ts with rfl | ⟨its, z, rfl⟩
  · exact check_none A cap w
  · rcases h with ⟨h, _⟩ | ⟨g, o, rfl, hg, hc⟩
    · simp at h
    · by_cases h4 : 16385 < (its ++ [z]).length
      · exact check_many _ _ _ _ w (by rw [List.length_map]) h4 hlen
      · have hn : (its ++ [z]).length = its.length + 1 := by simp
        rw [hn] at h4 hcap ⊢
        obtain ⟨c0, c1, c2, c3⟩ := hc its.length z (by simp)
        have hz1 := hok z (by simp)
        unfold CheckOut
        rw [List.map_append, List.map_singleton, checkL_snoc, List.length_map, if_neg h4]
        cases hE : Lx.endB z.2 with
        | false =>
          rw [if_pos rfl]
          exact check_noend g o its.length cap z.2.1 (strOf z.2.2.1) z.2.2.2 w hz1 (by omega) c0 c2 c3 (by rw [strOf_list]; exact hE)
        | true =>
          rw [if_neg (by decide)]
          have hE' := hE
          unfold Lx.endB at hE'
          simp only [Bool.and_eq_true, decide_eq_true_eq] at hE'
          obtain ⟨⟨e0, e1⟩, e2⟩ := hE'
          have e1' : z.2.2.1 = [] := by simpa using e1
          rw [e0] at c0
          rw [e1'] at c2
          exact check_end g o its.length cap z.2.2.2 its w hz1 (by omega) rfl hcap c0 c2 c3 e2 hg (fun i t hi => hc i t (by rw [List.getElem?_append_left (List.getElem?_eq_some_iff.1 hi).1]; exact hi)) (fun t ht => hok t (by simp [ht]))
end Go.Proofs.YtajmdpndbfmdmaaDoor
