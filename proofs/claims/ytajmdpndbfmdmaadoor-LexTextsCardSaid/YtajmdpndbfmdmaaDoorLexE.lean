/-
  lex.Tokens cuts a text into the tokens that the plain theory says, or refuses it so. Conditions: texts of at most 65,536 bytes; the cell of internal/bytealg.MaxLen holds a whole number.
-/
import Derived.Test.YtajmdpndbfmdmaaDoorLexD
import Derived.Laws.OwnMore
import Derived.Deep.Draws
import Derived.OwnWalk
namespace Go.Proofs.YtajmdpndbfmdmaaDoor
open Go Go.RowKit

def tkCells (x : Nat × Lx.Tk) : List Value := [.int .u8 x.2.1, .int .i64 x.1, .string (strOf x.2.2.1), .float .f64 x.2.2.2]
def tkRow (l : List (Nat × Lx.Tk)) : List Value := l.flatMap tkCells
/-- A row of the call's own that holds these tokens. -/
def Row (base : Nat) (v : Value) (l : List (Nat × Lx.Tk)) (w : World) : Prop := w.ownsRow base 44 4 v l.length (tkRow l)

theorem Row.nil (w : World) (base : Nat) : Row base (.slice none 0 0) [] w := World.ownsRow_nil _ _ _ _
theorem Row.form {base : Nat} {v : Value} {l : List (Nat × Lx.Tk)} {w : World} (h : Row base v l w) : ∃ A c, v = .slice A l.length c := by
  rcases h.2 with ⟨rfl, e⟩ | ⟨g, cap, _, rfl, _⟩
  · exact ⟨none, 0, by rw [e]⟩
  · exact ⟨_, _, rfl⟩
theorem Row.below {base : Nat} {v : Value} {l : List (Nat × Lx.Tk)} {w w' : World} (h : Row base v l w) (b : Below w.heap.size w w') : Row base v l w' := by
  refine ⟨h.1, ?_⟩
  rcases h.2 with h | ⟨g, cap, cur, e, hb, hh, h1⟩
  · exact .inl h
  · have hlt : g < w.heap.size := by
      rcases Nat.lt_or_ge g w.heap.size with hlt | hge
      · exact hlt
      · rw [Array.getElem?_eq_none hge] at hh; cases hh
    exact .inr ⟨g, cap, cur, e, hb, (b.block g hlt).trans hh, h1⟩
theorem Row.alloc {base : Nat} {v : Value} {l : List (Nat × Lx.Tk)} {w : World} (h : Row base v l w) (o : Obj) : Row base v l (w.alloc o) := World.ownsRow.alloc h o
theorem Row.drewN {base : Nat} {v : Value} {l : List (Nat × Lx.Tk)} {w : World} (h : Row base v l w) (n : Nat) : Row base v l (w.drewN n) := h
theorem Row.grow {base : Nat} {v' : Value} {l : List (Nat × Lx.Tk)} {w' : World} {x : Nat × Lx.Tk} (h : w'.ownsRow base 44 4 v' (l.length + 1) (tkRow l ++ tkCells x)) : Row base v' (l ++ [x]) w' := by
  have e : tkRow (l ++ [x]) = tkRow l ++ tkCells x := by unfold tkRow; rw [List.flatMap_append]; simp
  unfold Row
  rw [e, List.length_append]
  exact h

theorem below_grown {w w1 w2 : World} {base : Nat} {v : Value} {l : List (Nat × Lx.Tk)} (hb : Below base w w1) (hB : base ≤ w.heap.size) (ho : Row base v l w1) (hg : w1.grownBy w2 v.ownBlock) : Below base w w2 := by
  refine hb.trans ⟨hg.os, hg.tape, hg.output, hg.size, fun k hk => hg.block k (by have := hb.size; omega) fun e => ?_⟩
  have := (World.ownsRow.lt ho k e.symm).1
  omega

theorem tk_one (x : Nat × Lx.Tk) : ∀ u ∈ tkCells x, u.oneCell' = true := by
  intro u hu
  simp only [tkCells, List.mem_cons, List.not_mem_nil, or_false] at hu
  rcases hu with rfl | rfl | rfl | rfl <;> rfl
theorem tok_info : (Tryd.prog.info? 44).map (fun i => (i.zero, i.size, i.bytes)) = some (some (tkA 0 0 ByteArray.empty 0), 4, 40) := by kernel_rfl

theorem prefix_two (c a b : UInt8) (r : List UInt8) : Lib.hasPrefix (c :: r) [a, b] = ((a == c) && decide (r.head? = some b)) := by
  cases r with
  | nil => simp [Lib.hasPrefix, List.isPrefixOf]
  | cons d r =>
    simp [Lib.hasPrefix, List.isPrefixOf]
    by_cases h : b = d
    · subst h; simp
    · have : (b == d) = false := by rw [beq_eq_false_iff_ne]; exact h
      rw [this]; simp; intro _ e; exact h e.symm
theorem index_line : ∀ l : List UInt8, Lib.index l [10] = if (l.takeWhile (fun b => b != 10)).length = l.length then -1 else ((l.takeWhile (fun b => b != 10)).length : Int) := by
  intro l
  induction l with
  | nil => rfl
  | cons c l ih =>
    rw [Lib.index]
    by_cases h : c = 10
    · subst h; simp [List.isPrefixOf]
    · have h1 : List.isPrefixOf [10] (c :: l) = false := by
        have : (10 == c) = false := by rw [beq_eq_false_iff_ne]; exact fun e => h e.symm
        simp [List.isPrefixOf, this]
      have h2 : (c != 10) = true := by simpa using h
      rw [h1, ih, List.takeWhile_cons, h2]
      simp only [Bool.false_eq_true, if_false, if_true, List.length_cons]
      by_cases h3 : (l.takeWhile (fun b => b != 10)).length = l.length
      · rw [if_pos h3, if_pos (show ((-1 : Int) == -1) = true from rfl), if_pos (show (l.takeWhile (fun b => b != 10)).length + 1 = l.length + 1 by omega)]
      · rw [if_neg h3, if_neg (show ¬ (l.takeWhile (fun b => b != 10)).length + 1 = l.length + 1 by omega)]
        have : (((l.takeWhile (fun b => b != 10)).length : Int) == -1) = false := by rw [beq_eq_false_iff_ne]; omega
        rw [this]; simp
theorem cut_line (l : List UInt8) : (Lib.cut l [10]).1.length = (l.takeWhile (fun b => b != 10)).length := by
  have hle := (List.takeWhile_sublist (l := l) (fun b => b != 10)).length_le
  unfold Lib.cut
  rw [index_line]
  by_cases h : (l.takeWhile (fun b => b != 10)).length = l.length
  · rw [if_pos h, if_neg (by decide)]; exact h.symm
  · rw [if_neg h, if_pos (by omega)]
    simp only [Int.toNat_natCast, List.length_take]
    omega

/-- What lex.Tokens gives of a text that is not too long. -/
def LexOut (s : ByteArray) (w : World) (e : Ending) (w' : World) : Prop :=
  ∃ (l : List (Nat × Lx.Tk)) (p f : Nat) (v : Value), Lx.Lexes s.data.toList (l, p, f) ∧ e = .returned (.tuple #[v, .int .i64 p, .int .i64 f]) ∧ Row w.heap.size v l w' ∧ Below w.heap.size w w'
/-- Where the cutting stands: at place p, with these tokens. -/
def LexAt (s : ByteArray) (w : World) (p : Nat) (acc : List (Nat × Lx.Tk)) (v : Value) (wr : World) : Prop :=
  p ≤ s.size ∧ acc.length ≤ 16384 ∧ (∀ res, Lx.Ends (s.data.toList.drop p, p, acc) res → Lx.Lexes s.data.toList res) ∧ Row w.heap.size v acc wr ∧ Below w.heap.size w wr

theorem LexAt.start (s : ByteArray) (w : World) : LexAt s w 0 [] (.slice none 0 0) w := ⟨by omega, by simp, fun res h => h, Row.nil _ _, Below.refl _ _⟩
theorem LexAt.skip {s : ByteArray} {w wr w2 : World} {p q : Nat} {acc : List (Nat × Lx.Tk)} {v : Value} (h : LexAt s w p acc v wr) (hq : q ≤ s.size) (hb : Below wr.heap.size wr w2)
    (hs : Lx.stepL (s.data.toList.drop p, p, acc) = .inr (s.data.toList.drop q, q, acc)) : LexAt s w q acc v w2 :=
  ⟨hq, h.2.1, fun res g => h.2.2.1 res (Lx.Ends.go hs g), h.2.2.2.1.below hb, h.2.2.2.2.trans (hb.mono h.2.2.2.2.size)⟩

theorem pair_cell (w : World) (cs : Array Value) (t : TypeId) (o : Obj) (i : Nat) : ((w.alloc o).alloc (.cells cs t)).cell? ⟨w.heap.size + 1, i, none⟩ = cs[i]? := by
  have h := heap_alloc_new (w.alloc o) (.cells cs t)
  have e : (w.alloc o).heap.size = w.heap.size + 1 := by simp
  rw [e] at h
  exact cell_of_row _ _ i cs t (0, 0) h
theorem LexAt.push {s : ByteArray} {w wr w2 : World} {p q : Nat} {acc : List (Nat × Lx.Tk)} {v v' : Value} {t : Lx.Tk} (h : LexAt s w p acc v wr) (hq : q ≤ s.size) (ha : acc.length ≠ 16384) (hr : Row w.heap.size v' (acc ++ [(p, t)]) w2) (hb : Below w.heap.size w w2)
    (hs : Lx.stepL (s.data.toList.drop p, p, acc) = .inr (s.data.toList.drop q, q, acc ++ [(p, t)])) : LexAt s w q (acc ++ [(p, t)]) v' w2 :=
  ⟨hq, by have := h.2.1; simp; omega, fun res g => h.2.2.1 res (Lx.Ends.go hs g), hr, hb⟩
theorem LexAt.stop {s : ByteArray} {w wr : World} {p q f : Nat} {acc : List (Nat × Lx.Tk)} {v : Value} (h : LexAt s w p acc v wr) (hs : Lx.stepL (s.data.toList.drop p, p, acc) = .inl ([], q, f)) : Lx.Lexes s.data.toList ([], q, f) :=
  h.2.2.1 _ (Lx.Ends.stop hs)

set_option maxHeartbeats 16000000 in
set_option maxRecDepth 100000 in
theorem lex_any (s : ByteArray) (m : Int) (w : World) (hs : s.size ≤ 65536) (hm : w.cell? ⟨1, 0, none⟩ = some (.int .i64 m)) (hw : 1 < w.heap.size) :
    Calls Tryd.prog 50 #[.string s] w (LexOut s w) := by
  obtain ⟨i0, hi, hz0, hz1, hz2⟩ := info_parts tok_info
  have hm' := Lib.hid hm
  have hs1 : ¬ 65536 < (s.size : Int) := by omega
  have hst := Lib.hid (LexAt.start s w)
  clear hm
  go_enter Tryd.func50, Tryd.ntmps50
  go_wp2_with fail
  go_step3
  go_wp2_with fail
  go_step3
  go_wp2_with fail
  go_loopw [5, 6] (fun v i wr => ∃ (p : Nat) (acc : List (Nat × Lx.Tk)), p ≤ s.size ∧ i = .int .i64 p ∧ Hid (LexAt s w p acc v wr)) (fun _ i _ => ((s.size : Int) - intOf i).toNat)
  case atStart => exact ⟨0, [], by omega, rfl, hst⟩
  case round =>
    obtain ⟨p, acc, hp, rfl, H⟩ := hrel
    obtain ⟨A, cp, rfl⟩ := H.out.2.2.2.1.form
    by_cases c : (p : Int) < s.size
    · obtain ⟨X, hX⟩ : ∃ X, s.extract p s.size = X := ⟨_, rfl⟩
      have hXl : X.data.toList = s.data.toList.drop p := by rw [← hX, drop_ext]
      have hXs : X.size = s.size - p := by rw [← size_list, hXl, List.length_drop, size_list]
      have hX0 : 0 < X.size := by omega
      have hX0' : 0 < (X.size : Int) := by omega
      have hXb : X.size ≤ 65536 := by omega
      obtain ⟨u, hu⟩ : ∃ u, X[0]'hX0 = u := ⟨_, rfl⟩
      have hdc := head_cons X hX0
      rw [hu] at hdc
      have hd1 : X.data.toList.drop 1 = s.data.toList.drop (p + 1) := by rw [hXl, List.drop_drop]
      have hXl' := Lib.hid hXl
      have hXs' := Lib.hid hXs
      by_cases cb : Lx.isB u = true
      · have hsk := Lib.hid (H.out.skip (q := p + 1) (w2 := wr) (by omega) (Below.refl _ _) (by rw [← hXl, hdc, Lx.stepL, if_pos cb, hd1]))
        have hb2 : u.toNat = 32 ∨ u.toNat = 9 ∨ u.toNat = 10 ∨ u.toNat = 13 := by unfold Lx.isB at cb; simp at cb; omega
        clear hXl hXs hdc hd1 cb
        rcases hb2 with hb | hb | hb | hb
        · have d9 : ((u.toNat : Int) == 9) = false := by simp; omega
          have d10 : ((u.toNat : Int) == 10) = false := by simp; omega
          have d13 : ((u.toNat : Int) == 13) = false := by simp; omega
          have d32 : ((u.toNat : Int) == 32) = true := by simp; omega
          clear hb
          go_wp2_with fail
          go_roundw
          case rel => exact ⟨p + 1, acc, by omega, by go_num, hsk⟩
          case measure => simp [intOf]; omega
        · have d9 : ((u.toNat : Int) == 9) = true := by simp; omega
          clear hb
          go_wp2_with fail
          go_roundw
          case rel => exact ⟨p + 1, acc, by omega, by go_num, hsk⟩
          case measure => simp [intOf]; omega
        · have d9 : ((u.toNat : Int) == 9) = false := by simp; omega
          have d10 : ((u.toNat : Int) == 10) = true := by simp; omega
          clear hb
          go_wp2_with fail
          go_roundw
          case rel => exact ⟨p + 1, acc, by omega, by go_num, hsk⟩
          case measure => simp [intOf]; omega
        · have d9 : ((u.toNat : Int) == 9) = false := by simp; omega
          have d10 : ((u.toNat : Int) == 10) = false := by simp; omega
          have d13 : ((u.toNat : Int) == 13) = true := by simp; omega
          clear hb
          go_wp2_with fail
          go_roundw
          case rel => exact ⟨p + 1, acc, by omega, by go_num, hsk⟩
          case measure => simp [intOf]; omega
      · have hB := Bool.eq_false_iff.2 cb
        have hb2 : u.toNat ≠ 32 ∧ u.toNat ≠ 9 ∧ u.toNat ≠ 10 ∧ u.toNat ≠ 13 := by unfold Lx.isB at hB; simp at hB; omega
        have d1 : ((u.toNat : Int) == 9) = false := by simp; omega
        have d2 : ((u.toNat : Int) == 10) = false := by simp; omega
        have d3 : ((u.toNat : Int) == 13) = false := by simp; omega
        have d4 : ((u.toNat : Int) == 32) = false := by simp; omega
        have qt := Lib.hid (fun w' hm' hw' => token_any X m w' (by omega) hX0 hm' hw')
        by_cases c47 : u.toNat = 47
        · have d5 : ((u.toNat : Int) == 47) = true := by simp; omega
          obtain rfl : u = 47 := UInt8.toNat_inj.1 c47
          have g1 := Lib.hid (fun w' => (Tryd.strings_HasPrefix X ⟨#[47, 47]⟩ w'))
          have g2 := Lib.hid (fun w' => (Tryd.strings_HasPrefix X ⟨#[47, 42]⟩ w'))
          rw [show (⟨#[47, 47]⟩ : ByteArray).data.toList = [47, 47] from rfl, hdc, prefix_two] at g1
          rw [show (⟨#[47, 42]⟩ : ByteArray).data.toList = [47, 42] from rfl, hdc, prefix_two] at g2
          by_cases c1 : (X.data.toList.drop 1).head? = some 47
          · rw [decide_eq_true c1, show ((47 : UInt8) == 47) = true from rfl, Bool.true_and] at g1
            have hcl := cut_line X.data.toList
            have htw := (List.takeWhile_sublist (l := X.data.toList) (fun b => b != 10)).length_le
            rw [size_list] at htw
            have g3 := Lib.hid (fun w' hm' => Tryd.strings_Cut X ⟨#[10]⟩ m w' (by omega) hm')
            have hsk := fun n => Lib.hid (H.out.skip (q := p + (X.data.toList.takeWhile (fun b => b != 10)).length) (w2 := wr.drewN n) (by omega) ⟨rfl, rfl, rfl, Nat.le_refl _, fun _ _ => rfl⟩ (by
              rw [← hXl, hdc, Lx.stepL, if_neg cb, if_pos ⟨c47, c1⟩, ← hdc, Lx.dropWhile_drop, hXl, List.drop_drop]))
            rw [show (⟨#[10]⟩ : ByteArray).data.toList = [10] from rfl] at g3
            generalize Lib.cut X.data.toList [10] = K at g3 hcl
            obtain ⟨K1, K2, K3⟩ := K
            simp only at g3 hcl
            have hK : (⟨K1.toArray⟩ : ByteArray).size = K1.length := by simp [ByteArray.size]
            rw [← hcl] at hsk htw
            generalize (⟨K1.toArray⟩ : ByteArray) = L1 at g3 hK
            rw [← hK] at hsk htw
            have hpn := Lib.hid (show ((p + L1.size : Nat) : Int) = (p : Int) + L1.size from by omega)
            have hsk' := Lib.hid hsk
            have hpos : 0 < L1.size := by
              rw [hK, hcl, hdc, List.takeWhile_cons, if_pos (by decide)]; simp
            clear hXl hXs hdc hd1 cb hB hb2 c1 hcl hsk hK qt g2
            go_wp2_with fail
            refine (g1.out _).mono ?_; rintro e w' ⟨rfl, rfl⟩
            go_wp2_with fail
            refine (g3.out _ ?_).mono ?_
            · exact (H.out.2.2.2.2.cell (p := ⟨1, 0, none⟩) hw).trans hm'.out
            rintro e w' ⟨rfl, nn, rfl⟩
            go_wp2_with fail
            go_roundw
            case rel => exact ⟨p + L1.size, acc, by have := hXs'.out; omega, by rw [hpn.out], (hsk'.out nn)⟩
            case measure => simp [intOf]; omega
          · rw [decide_eq_false c1, Bool.and_false] at g1
            by_cases c2 : (X.data.toList.drop 1).head? = some 42
            · rw [decide_eq_true c2, show ((47 : UInt8) == 47) = true from rfl, Bool.true_and] at g2
              have hx2 : 2 ≤ X.size := by
                rcases Nat.lt_or_ge X.size 2 with h | h
                · rw [List.drop_of_length_le (by rw [size_list]; omega)] at c2; cases c2
                · exact h
              have hx2' : (2 : Int) ≤ X.size := by omega
              have g3 := Lib.hid (fun w' hm' => index_at X ⟨#[42, 47]⟩ 2 m w' (by omega) hm')
              rw [show (⟨#[42, 47]⟩ : ByteArray).data.toList = [42, 47] from rfl] at g3
              have hdd : (X.data.toList.drop 1).drop 1 = X.data.toList.drop 2 := by rw [List.drop_drop]
              have hif := Lx.index_fits (X.data.toList.drop 2)
              rw [List.length_drop, size_list] at hif
              have hge := Lib.index_ge (X.data.toList.drop 2) [42, 47]
              have hst0 : Lx.stepL (s.data.toList.drop p, p, acc) = (if Lib.index (X.data.toList.drop 2) [42, 47] < 0 then .inl ([], p, 5) else .inr ((X.data.toList.drop 2).drop ((Lib.index (X.data.toList.drop 2) [42, 47]).toNat + 2), p + (Lib.index (X.data.toList.drop 2) [42, 47]).toNat + 4, acc)) := by
                rw [← hXl, hdc, Lx.stepL, if_neg cb, if_neg (fun h => c1 h.2), if_pos ⟨c47, c2⟩, ← hdc, hdd]
              by_cases ci : Lib.index (X.data.toList.drop 2) [42, 47] < 0
              · have hlx := Lib.hid (H.out.stop (q := p) (f := 5) (by rw [hst0, if_pos ci]))
                generalize Lib.index (X.data.toList.drop 2) [42, 47] = J at *
                have B2 := Lib.hid H.out.2.2.2.2
                clear hXl hXs hdc hd1 cb hB hb2 c1 c2 qt hst0 hif hdd
                go_wp2_with fail
                refine (g1.out _).mono ?_; rintro e w' ⟨rfl, rfl⟩
                go_wp2_with fail
                refine (g2.out _).mono ?_; rintro e w' ⟨rfl, rfl⟩
                go_wp2_with fail
                refine (g3.out _ ?_).mono ?_
                · exact (H.out.2.2.2.2.cell (p := ⟨1, 0, none⟩) hw).trans hm'.out
                rintro e w' ⟨rfl, rfl⟩
                go_wp2
                try rw [Exit.noGoto_ret]
                go_ret3
                exact ⟨[], _, _, .slice none 0 0, hlx.out, rfl, Row.nil _ _, B2.out⟩
              · have hsk := Lib.hid (H.out.skip (q := p + (Lib.index (X.data.toList.drop 2) [42, 47]).toNat + 4) (w2 := wr) (by have := hif (by omega); omega) (Below.refl _ _) (by
                  rw [hst0, if_neg ci, hXl, List.drop_drop, List.drop_drop]; congr 2; congr 1; omega))
                have hif' := hif (by omega)
                obtain ⟨J, hJ⟩ := Int.eq_ofNat_of_zero_le (a := Lib.index (X.data.toList.drop 2) [42, 47]) (by omega)
                rw [hJ] at g3 hsk hif' ci
                rw [Int.toNat_natCast] at hsk hif'
                have hpn := Lib.hid (show ((p + J + 4 : Nat) : Int) = (p : Int) + ((J : Int) + 4) from by omega)
                have hJb : (J : Int) ≤ 65536 := by omega
                have hJ0 : (0 : Int) ≤ J := by omega
                clear hXl hXs hdc hd1 cb hB hb2 c1 c2 qt hst0 hif hdd hJ hge
                go_wp2_with fail
                refine (g1.out _).mono ?_; rintro e w' ⟨rfl, rfl⟩
                go_wp2_with fail
                refine (g2.out _).mono ?_; rintro e w' ⟨rfl, rfl⟩
                go_wp2_with fail
                refine (g3.out _ ?_).mono ?_
                · exact (H.out.2.2.2.2.cell (p := ⟨1, 0, none⟩) hw).trans hm'.out
                rintro e w' ⟨rfl, rfl⟩
                go_wp2_with fail
                go_roundw
                case rel => exact ⟨p + J + 4, acc, by have := hXs'.out; omega, by rw [hpn.out], hsk⟩
                case measure => simp [intOf]; omega
            · rw [decide_eq_false c2, Bool.and_false] at g2
              have hstep := Lib.hid (show Lx.stepL (s.data.toList.drop p, p, acc) = (match Lx.tokL X.data.toList with | .error q => .inl ([], p + q, 5) | .ok (t, n) => if acc.length = 16384 then .inl ([], p, 4) else .inr (X.data.toList.drop n, p + n, acc ++ [(p, t)])) from by
                rw [← hXl]; conv => lhs; rw [hdc]
                rw [Lx.stepL, if_neg cb, if_neg (fun h => c1 h.2), if_neg (fun h => c2 h.2), ← hdc]
                cases Lx.tokL X.data.toList <;> rfl)
              clear hXs hd1 cb hB hb2 c1 c2
              cases hT : Lx.tokL X.data.toList with
              | error n =>
                rw [hT] at qt hstep
                have hbad := Lib.hid (Lx.tok_bad (by rw [← hdc]; exact hT))
                have hn := hbad.out
                rw [← hdc, size_list] at hn
                have hn' : (n : Int) ≤ 65536 := by omega
                have hn0 : (0 : Int) ≤ n := by omega
                have hlx := Lib.hid (H.out.stop (q := p + n) (f := 5) (by rw [hstep.out]))
                have hpn := Lib.hid (show ((p + n : Nat) : Int) = (p : Int) + n from by omega)
                clear hn hbad hdc hT
                go_wp2_with fail
                refine (g1.out _).mono ?_; rintro e w' ⟨rfl, rfl⟩
                go_wp2_with fail
                refine (g2.out _).mono ?_; rintro e w' ⟨rfl, rfl⟩
                go_wp2_with fail
                refine (qt.out _ ?_ ?_).mono ?_
                · exact (H.out.2.2.2.2.cell (p := ⟨1, 0, none⟩) hw).trans hm'.out
                · exact Nat.lt_of_lt_of_le hw H.out.2.2.2.2.size
                rintro e w2 ⟨⟨ek, ea, es, ex, rfl⟩, b2⟩
                unfold tkA
                have B2 := Lib.hid (H.out.2.2.2.2.trans (b2.mono H.out.2.2.2.2.size))
                clear b2
                go_wp2
                try rw [Exit.noGoto_ret]
                go_ret3
                exact ⟨[], _, _, .slice none 0 0, hlx.out, by rw [hpn.out]; rfl, Row.nil _ _, B2.out.alloc B2.out.size _⟩
              | ok tn =>
                rw [hT] at qt hstep
                obtain ⟨⟨k, t, x⟩, n⟩ := tn
                have hgood := Lx.tok_good (by rw [← hdc]; exact hT)
                rw [← hdc, size_list] at hgood
                obtain ⟨_, hn1, hn2, _⟩ := hgood
                have hn' : (n : Int) ≤ 65536 := by omega
                have hn0 : (0 : Int) ≤ n := by omega
                by_cases ha : acc.length = 16384
                · have ha' : ((acc.length : Int) == 16384) = true := by simp; omega
                  have hlx := Lib.hid (H.out.stop (q := p) (f := 4) (by rw [hstep.out]; simp only; rw [if_pos ha]))
                  clear hdc hT ha hstep
                  go_wp2_with fail
                  refine (g1.out _).mono ?_; rintro e w' ⟨rfl, rfl⟩
                  go_wp2_with fail
                  refine (g2.out _).mono ?_; rintro e w' ⟨rfl, rfl⟩
                  go_wp2_with fail
                  refine (qt.out _ ?_ ?_).mono ?_
                  · exact (H.out.2.2.2.2.cell (p := ⟨1, 0, none⟩) hw).trans hm'.out
                  · exact Nat.lt_of_lt_of_le hw H.out.2.2.2.2.size
                  rintro e w2 ⟨rfl, b2⟩
                  unfold tkA
                  have B2 := Lib.hid (H.out.2.2.2.2.trans (b2.mono H.out.2.2.2.2.size))
                  clear b2
                  go_wp2
                  try rw [Exit.noGoto_ret]
                  go_ret3
                  exact ⟨[], _, _, .slice none 0 0, hlx.out, rfl, Row.nil _ _, B2.out.alloc B2.out.size _⟩
                · have ha' : ((acc.length : Int) == 16384) = false := by rw [beq_eq_false_iff_ne]; omega
                  have hst2 := Lib.hid (show Lx.stepL (s.data.toList.drop p, p, acc) = .inr (s.data.toList.drop (p + n), p + n, acc ++ [(p, (k, t, x))]) from by rw [hstep.out]; simp only; rw [if_neg ha, hXl, List.drop_drop])
                  have hal := Lib.hid (And.intro ha H.out.2.1)
                  have hpn := Lib.hid (show ((p + n : Nat) : Int) = (p : Int) + n from by omega)
                  clear hdc hT ha hstep
                  go_wp2_with fail
                  refine (g1.out _).mono ?_; rintro e w' ⟨rfl, rfl⟩
                  go_wp2_with fail
                  refine (g2.out _).mono ?_; rintro e w' ⟨rfl, rfl⟩
                  go_wp2_with fail
                  refine (qt.out _ ?_ ?_).mono ?_
                  · exact (H.out.2.2.2.2.cell (p := ⟨1, 0, none⟩) hw).trans hm'.out
                  · exact Nat.lt_of_lt_of_le hw H.out.2.2.2.2.size
                  rintro e w2 ⟨rfl, b2⟩
                  unfold tkA
                  have B2 := Lib.hid (H.out.2.2.2.2.trans (b2.mono H.out.2.2.2.2.size))
                  have hrow := Lib.hid (H.out.2.2.2.1.below b2)
                  clear b2
                  go_wp2_with (at_builtin; refine wpList_append_own _ rfl _ _ 42 rfl w.heap.size 44 i0 (tkA 0 0 ByteArray.empty 0) 4 40 Tryd.underlying42 hi hz0 hz1 hz2 rfl (by decide) _ _ _ rfl ((hrow.out.alloc _).alloc _) ⟨w2.heap.size + 1, 0, none⟩ 1 1 (tkCells (p, k, t, x)) rfl rfl ?c1 ?c2 ?c3 ?c4 ?c5 ?_)
                  case c1 => intro j u h; rw [Lib.add_plain, Nat.zero_add]; refine (pair_cell _ _ _ _ j).trans ?_; rw [List.getElem?_toArray]; exact h
                  case c2 => exact tk_one _
                  case c3 => have := hal.out.2; unfold maxLen; omega
                  case c4 => have := hal.out.2; omega
                  case c5 => have := B2.out.size; simp; omega
                  intro v' w3 hown' hgrow _
                  have hr := Lib.hid (Row.grow hown')
                  have hb := Lib.hid (below_grown ((B2.out.alloc B2.out.size _).alloc (by have := B2.out.size; simp; omega) _) (Nat.le_refl _) ((hrow.out.alloc _).alloc _) hgrow)
                  have hnew := Lib.hid (H.out.push (q := p + n) (by have := hXs'.out; omega) hal.out.1 hr.out hb.out hst2.out)
                  clear hown' hgrow
                  go_wp2_with fail
                  go_roundw
                  case rel => exact ⟨p + n, acc ++ [(p, (k, t, x))], by have := hXs'.out; omega, by rw [hpn.out], hnew⟩
                  case measure => simp [intOf]; omega
        · have d5 : ((u.toNat : Int) == 47) = false := by simp; omega
          have hstep := Lib.hid (show Lx.stepL (s.data.toList.drop p, p, acc) = (match Lx.tokL X.data.toList with | .error q => .inl ([], p + q, 5) | .ok (t, n) => if acc.length = 16384 then .inl ([], p, 4) else .inr (X.data.toList.drop n, p + n, acc ++ [(p, t)])) from by
            rw [← hXl]; conv => lhs; rw [hdc]
            rw [Lx.stepL, if_neg cb, if_neg (fun h => c47 h.1), if_neg (fun h => c47 h.1), ← hdc]
            cases Lx.tokL X.data.toList <;> rfl)
          clear hXs hd1 cb hB hb2 c47
          cases hT : Lx.tokL X.data.toList with
          | error n =>
            rw [hT] at qt hstep
            have hbad := Lib.hid (Lx.tok_bad (by rw [← hdc]; exact hT))
            have hn := hbad.out
            rw [← hdc, size_list] at hn
            have hn' : (n : Int) ≤ 65536 := by omega
            have hn0 : (0 : Int) ≤ n := by omega
            have hlx := Lib.hid (H.out.stop (q := p + n) (f := 5) (by rw [hstep.out]))
            have hpn := Lib.hid (show ((p + n : Nat) : Int) = (p : Int) + n from by omega)
            clear hn hbad hdc hT
            go_wp2_with fail
            refine (qt.out _ ?_ ?_).mono ?_
            · exact (H.out.2.2.2.2.cell (p := ⟨1, 0, none⟩) hw).trans hm'.out
            · exact Nat.lt_of_lt_of_le hw H.out.2.2.2.2.size
            rintro e w2 ⟨⟨ek, ea, es, ex, rfl⟩, b2⟩
            unfold tkA
            have B2 := Lib.hid (H.out.2.2.2.2.trans (b2.mono H.out.2.2.2.2.size))
            clear b2
            go_wp2
            try rw [Exit.noGoto_ret]
            go_ret3
            exact ⟨[], _, _, .slice none 0 0, hlx.out, by rw [hpn.out]; rfl, Row.nil _ _, B2.out.alloc B2.out.size _⟩
          | ok tn =>
            rw [hT] at qt hstep
            obtain ⟨⟨k, t, x⟩, n⟩ := tn
            have hgood := Lx.tok_good (by rw [← hdc]; exact hT)
            rw [← hdc, size_list] at hgood
            obtain ⟨_, hn1, hn2, _⟩ := hgood
            have hn' : (n : Int) ≤ 65536 := by omega
            have hn0 : (0 : Int) ≤ n := by omega
            by_cases ha : acc.length = 16384
            · have ha' : ((acc.length : Int) == 16384) = true := by simp; omega
              have hlx := Lib.hid (H.out.stop (q := p) (f := 4) (by rw [hstep.out]; simp only; rw [if_pos ha]))
              clear hdc hT ha hstep
              go_wp2_with fail
              refine (qt.out _ ?_ ?_).mono ?_
              · exact (H.out.2.2.2.2.cell (p := ⟨1, 0, none⟩) hw).trans hm'.out
              · exact Nat.lt_of_lt_of_le hw H.out.2.2.2.2.size
              rintro e w2 ⟨rfl, b2⟩
              unfold tkA
              have B2 := Lib.hid (H.out.2.2.2.2.trans (b2.mono H.out.2.2.2.2.size))
              clear b2
              go_wp2
              try rw [Exit.noGoto_ret]
              go_ret3
              exact ⟨[], _, _, .slice none 0 0, hlx.out, rfl, Row.nil _ _, B2.out.alloc B2.out.size _⟩
            · have ha' : ((acc.length : Int) == 16384) = false := by rw [beq_eq_false_iff_ne]; omega
              have hst2 := Lib.hid (show Lx.stepL (s.data.toList.drop p, p, acc) = .inr (s.data.toList.drop (p + n), p + n, acc ++ [(p, (k, t, x))]) from by rw [hstep.out]; simp only; rw [if_neg ha, hXl, List.drop_drop])
              have hal := Lib.hid (And.intro ha H.out.2.1)
              have hpn := Lib.hid (show ((p + n : Nat) : Int) = (p : Int) + n from by omega)
              clear hdc hT ha hstep
              go_wp2_with fail
              refine (qt.out _ ?_ ?_).mono ?_
              · exact (H.out.2.2.2.2.cell (p := ⟨1, 0, none⟩) hw).trans hm'.out
              · exact Nat.lt_of_lt_of_le hw H.out.2.2.2.2.size
              rintro e w2 ⟨rfl, b2⟩
              unfold tkA
              have B2 := Lib.hid (H.out.2.2.2.2.trans (b2.mono H.out.2.2.2.2.size))
              have hrow := Lib.hid (H.out.2.2.2.1.below b2)
              clear b2
              go_wp2_with (at_builtin; refine wpList_append_own _ rfl _ _ 42 rfl w.heap.size 44 i0 (tkA 0 0 ByteArray.empty 0) 4 40 Tryd.underlying42 hi hz0 hz1 hz2 rfl (by decide) _ _ _ rfl ((hrow.out.alloc _).alloc _) ⟨w2.heap.size + 1, 0, none⟩ 1 1 (tkCells (p, k, t, x)) rfl rfl ?c1 ?c2 ?c3 ?c4 ?c5 ?_)
              case c1 => intro j u h; rw [Lib.add_plain, Nat.zero_add]; refine (pair_cell _ _ _ _ j).trans ?_; rw [List.getElem?_toArray]; exact h
              case c2 => exact tk_one _
              case c3 => have := hal.out.2; unfold maxLen; omega
              case c4 => have := hal.out.2; omega
              case c5 => have := B2.out.size; simp; omega
              intro v' w3 hown' hgrow _
              have hr := Lib.hid (Row.grow hown')
              have hb := Lib.hid (below_grown ((B2.out.alloc B2.out.size _).alloc (by have := B2.out.size; simp; omega) _) (Nat.le_refl _) ((hrow.out.alloc _).alloc _) hgrow)
              have hnew := Lib.hid (H.out.push (q := p + n) (by have := hXs'.out; omega) hal.out.1 hr.out hb.out hst2.out)
              clear hown' hgrow
              go_wp2_with fail
              go_roundw
              case rel => exact ⟨p + n, acc ++ [(p, (k, t, x))], by have := hXs'.out; omega, by rw [hpn.out], hnew⟩
              case measure => simp [intOf]; omega
    · obtain rfl : p = s.size := by omega
      have hfin := Lib.hid (H.out.2.2.1 _ (Lx.Ends.stop (show Lx.stepL (s.data.toList.drop s.size, s.size, acc) = .inl (acc ++ [(s.size, 0, [], 0)], 0, 0) from by rw [List.drop_of_length_le (by rw [size_list]; omega)]; rfl)))
      have hrow := Lib.hid H.out.2.2.2.1
      have hbel := Lib.hid H.out.2.2.2.2
      have hlen := Lib.hid H.out.2.1
      go_wp2_with (at_builtin; refine wpList_append_own _ rfl _ _ 42 rfl w.heap.size 44 i0 (tkA 0 0 ByteArray.empty 0) 4 40 Tryd.underlying42 hi hz0 hz1 hz2 rfl (by decide) _ _ _ rfl (hrow.out.alloc _) ⟨wr.heap.size, 0, none⟩ 1 1 (tkCells (s.size, 0, [], 0)) rfl rfl ?c1 ?c2 ?c3 ?c4 ?c5 ?_)
      case c1 => exact fun j u h => h
      case c2 => exact tk_one _
      case c3 => have := hlen.out; unfold maxLen; omega
      case c4 => have := hlen.out; omega
      case c5 => have := hbel.out.size; omega
      intro v' w1 hown' hgrow _
      have hr := Lib.hid (Row.grow hown')
      have hb := Lib.hid (below_grown (hbel.out.alloc hbel.out.size _) (Nat.le_refl _) (hrow.out.alloc _) hgrow)
      clear hown' hgrow
      go_wp2
      try rw [Exit.noGoto_ret]
      go_ret3
      exact ⟨_, _, _, _, hfin.out, rfl, hr.out, hb.out⟩
end Go.Proofs.YtajmdpndbfmdmaaDoor
