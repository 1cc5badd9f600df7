/-
  str.Quote and the document's return the string as a literal. Conditions: strings of at most 70,000 bytes.
-/
import Derived.Test.YtajmdpndbfmdmaaDoorStrA
import Derived.Test.YtajmdpndbfmdmaaDoorStrP
import Derived.Laws.BitsAllLaws
namespace Go.Proofs.YtajmdpndbfmdmaaDoor
open Go Go.RowKit

theorem byteCells_snoc (l : List UInt8) (u : UInt8) : Lib.byteCells (l ++ [u]) = Lib.byteCells l ++ [.int .u8 u.toNat] := by simp [Lib.byteCells]
theorem byteCells_str (l : List UInt8) (s : ByteArray) : Lib.byteCells (l ++ s.data.toList) = Lib.byteCells l ++ Lib.strCells s := by simp [Lib.byteCells, Lib.strCells]

/-- A builder that holds these bytes. -/
def Bl (B b : Nat) (l : List UInt8) (w : World) : Prop := IsB B b (Lib.byteCells l) w

theorem wByte (B b : Nat) (l : List UInt8) (u : UInt8) (w : World) (h : Bl B b l w) (hlen : l.length + 1 ≤ 140737488355328) (hBw : B ≤ w.heap.size) :
    Calls Tryd.prog 90 #[.pointer (some ⟨b, 0, none⟩), .int .u8 u.toNat] w fun e w' => e = .returned .nilIface ∧ Bl B b (l ++ [u]) w' ∧ Below B w w' := by
  refine (writeByte_any B b (Lib.byteCells l) u.toNat w h (by rw [Lib.byteCells_length]; exact hlen) hBw).mono fun e w' ⟨h1, h2, h3⟩ => ⟨h1, ?_, h3⟩
  unfold Bl; rw [byteCells_snoc]; exact h2

theorem wStr (B b : Nat) (l : List UInt8) (s : ByteArray) (w : World) (h : Bl B b l w) (hlen : l.length + s.size ≤ 140737488355328) (hBw : B ≤ w.heap.size) :
    Calls Tryd.prog 91 #[.pointer (some ⟨b, 0, none⟩), .string s] w fun e w' => e = .returned (.tuple #[.int .i64 s.size, .nilIface]) ∧ Bl B b (l ++ s.data.toList) w' ∧ Below B w w' := by
  refine (writeString_any B b (Lib.byteCells l) s w h (by rw [Lib.byteCells_length]; exact hlen) hBw).mono fun e w' ⟨h1, h2, h3⟩ => ⟨h1, ?_, h3⟩
  unfold Bl; rw [byteCells_str]; exact h2

/-- A new builder. -/
theorem bl_new (w : World) : Bl w.heap.size w.heap.size [] (w.alloc (.cells #[.pointer none, .slice none 0 0] 86)) :=
  Or.inl ⟨Nat.le_refl _, .slice none 0 0, heap_alloc_new w _, World.ownsRow_nil _ _ _ _, by simp [Value.ownBlock]⟩

/-- A builder that this call has made and that holds l: and what lay there before is as it was. -/
def Bw (w : World) (l : List UInt8) (w' : World) : Prop := Bl w.heap.size w.heap.size l w' ∧ Below w.heap.size w w'

theorem bw_new (w : World) : Bw w [] (w.alloc (.cells #[.pointer none, .slice none 0 0] 86)) :=
  ⟨bl_new w, (Below.refl _ _).alloc (Nat.le_refl _) _⟩

theorem bwByte {w : World} {l : List UInt8} {w1 : World} (h : Hid (Bw w l w1)) (u : UInt8) (hlen : l.length ≤ 1000000) :
    Calls Tryd.prog 90 #[.pointer (some ⟨w.heap.size, 0, none⟩), .int .u8 u.toNat] w1 fun e w' => e = .returned .nilIface ∧ Hid (Bw w (l ++ [u]) w') :=
  (wByte _ _ l u w1 h.out.1 (by omega) h.out.2.size).mono fun _ _ ⟨h1, h2, h3⟩ => ⟨h1, Lib.hid ⟨h2, h.out.2.trans h3⟩⟩

theorem bwStr {w : World} {l : List UInt8} {w1 : World} (h : Hid (Bw w l w1)) (s : ByteArray) (hlen : l.length ≤ 1000000) (hs : s.size ≤ 1000000) :
    Calls Tryd.prog 91 #[.pointer (some ⟨w.heap.size, 0, none⟩), .string s] w1 fun e w' => e = .returned (.tuple #[.int .i64 s.size, .nilIface]) ∧ Hid (Bw w (l ++ s.data.toList) w') :=
  (wStr _ _ l s w1 h.out.1 (by omega) h.out.2.size).mono fun _ _ ⟨h1, h2, h3⟩ => ⟨h1, Lib.hid ⟨h2, h.out.2.trans h3⟩⟩

theorem sixteen_any (d : Nat) (w : World) (hd : d < 16) :
    Calls Tryd.prog 114 #[.int .u8 d] w fun e w' => e = .returned (.int .u8 (Sp.hexb d).toNat) ∧ w = w' := by
  have e : ((Sp.hexb d).toNat : Int) = if d < 10 then 48 + (d : Int) else 97 + (d : Int) - 10 := by
    have : ∀ d, d < 16 → ((Sp.hexb d).toNat : Int) = if d < 10 then 48 + (d : Int) else 97 + (d : Int) - 10 := by decide
    exact this d hd
  have he := Lib.hid e
  clear e
  by_cases c : (d : Int) < 10
  · go_enter Tryd.func114, Tryd.ntmps114
    go_wp2
    go_ret
    exact ⟨by rw [he.out, if_pos (by omega)]; rfl, rfl⟩
  · go_enter Tryd.func114, Tryd.ntmps114
    go_wp2
    go_ret
    exact ⟨by rw [he.out, if_neg (by omega)]; rfl, rfl⟩

theorem take_snoc (s : ByteArray) (k : Nat) (h : k < s.size) : s.data.toList.take (k + 1) = s.data.toList.take k ++ [s[k]'h] := by
  have h' : k < s.data.toList.length := by rw [size_list]; exact h
  rw [List.take_succ_eq_append_getElem h']
  congr 2

theorem take_all (s : ByteArray) (k : Nat) (h : ¬ (k : Int) < s.size) : s.data.toList.take k = s.data.toList := List.take_of_length_le (by rw [size_list]; omega)

theorem q_round {s : ByteArray} {w w2 : World} {k : Nat} {X L : List UInt8} {u : UInt8} (hq : Hid (34 :: Sp.body (s.data.toList.take (k + 1)) = X ++ Sp.qb u)) (c : (k : Int) < s.size)
    (hqb : Hid (Sp.qb u = L)) (H2 : Hid (Bw w (X ++ L) w2)) :
    (∃ k1 : Nat, k1 ≤ s.size ∧ Value.int .i64 ((k : Int) + 1) = Value.int .i64 k1 ∧ Hid (Bw w (34 :: Sp.body (s.data.toList.take k1)) w2)) ∧
    ((s.size : Int) - intOf (Value.int .i64 ((k : Int) + 1))).toNat < ((s.size : Int) - intOf (Value.int .i64 (k : Int))).toNat := by
  refine ⟨⟨k + 1, by omega, by simp, ?_⟩, by simp [intOf]; omega⟩
  rw [hq.out, hqb.out]
  exact H2

theorem app2 {w w2 : World} {X : List UInt8} {a b : List UInt8} (h : Hid (Bw w (X ++ a ++ b) w2)) : Hid (Bw w (X ++ (a ++ b)) w2) := by
  rw [← List.append_assoc]; exact h

theorem quote_any (s : ByteArray) (w : World) (hs : s.size ≤ 70000) :
    Calls Tryd.prog 60 #[.string s] w fun e w' => e = .returned (.string (strOf (Sp.quoteL s.data.toList))) ∧ Below w.heap.size w w' := by
  go_enter Tryd.func60, Tryd.ntmps60
  go_wp2_with fail
  refine (bwByte (Lib.hid (bw_new w)) 34 (by decide)).mono ?_
  rintro e w1 ⟨rfl, H1⟩
  go_wp2_with fail
  go_loopw [9] (fun i wr => ∃ k : Nat, k ≤ s.size ∧ i = .int .i64 k ∧ Hid (Bw w (34 :: Sp.body (s.data.toList.take k)) wr)) (fun i _ => ((s.size : Int) - intOf i).toNat)
  case atStart => exact ⟨0, by omega, rfl, H1⟩
  case round =>
    obtain ⟨k, hk, rfl, H⟩ := hrel
    have hlen : (34 :: Sp.body (s.data.toList.take k)).length ≤ 300000 := by
      have := Sp.body_length (s.data.toList.take k)
      rw [List.length_take] at this
      simp; omega
    by_cases c : (k : Int) < s.size
    · obtain ⟨u, hu⟩ : ∃ u, u = s[k]'(by omega) := ⟨_, rfl⟩
      have hq : (34 :: Sp.body (s.data.toList.take (k + 1))) = (34 :: Sp.body (s.data.toList.take k)) ++ Sp.qb u := by
        rw [take_snoc s k (by omega), ← hu, Sp.body_snoc]; rfl
      have hu' := hu.symm
      clear hu
      obtain ⟨X, hX⟩ : ∃ X, X = (34 :: Sp.body (s.data.toList.take k)) := ⟨_, rfl⟩
      rw [← hX] at H hq hlen
      have hq' := Lib.hid hq
      have hlen' := Lib.hid hlen
      have hlt := u.toNat_lt
      clear hq hlen hX
      by_cases c1 : u.toNat = 34 ∨ u.toNat = 92
      · have hqb' := Lib.hid (show Sp.qb u = [92] ++ [u] from by unfold Sp.qb; rw [if_pos c1]; rfl)
        by_cases c0 : u.toNat = 34
        · have d1 : ((u.toNat : Int) == 34) = true := by simp; omega
          clear c1 c0
          go_wp2_with fail
          refine (bwByte H 92 (by have := hlen'.out; omega)).mono ?_
          rintro e w2 ⟨rfl, H2⟩
          go_wp2_with fail
          refine (bwByte H2 u (by have := hlen'.out; simp; omega)).mono ?_
          rintro e w3 ⟨rfl, H3⟩
          go_wp2_with fail
          exact q_round hq' c hqb' (app2 H3)
        · have d1 : ((u.toNat : Int) == 34) = false := by simp; omega
          have d2 : ((u.toNat : Int) == 92) = true := by simp; omega
          clear c1 c0
          go_wp2_with fail
          refine (bwByte H 92 (by have := hlen'.out; omega)).mono ?_
          rintro e w2 ⟨rfl, H2⟩
          go_wp2_with fail
          refine (bwByte H2 u (by have := hlen'.out; simp; omega)).mono ?_
          rintro e w3 ⟨rfl, H3⟩
          go_wp2_with fail
          exact q_round hq' c hqb' (app2 H3)
      · have d1 : ((u.toNat : Int) == 34) = false := by simp; omega
        have d2 : ((u.toNat : Int) == 92) = false := by simp; omega
        by_cases c2 : u.toNat = 10
        · have d3 : ((u.toNat : Int) == 10) = true := by simp; omega
          have hqb' := Lib.hid (show Sp.qb u = [92, 110] from by unfold Sp.qb; rw [if_neg c1, if_pos c2])
          clear c1 c2
          go_wp2_with fail
          refine (bwStr H ⟨#[92, 110]⟩ (by have := hlen'.out; omega) (by decide)).mono ?_
          rintro e w2 ⟨rfl, H2⟩
          go_wp2_with fail
          exact q_round hq' c hqb' H2
        · have d3 : ((u.toNat : Int) == 10) = false := by simp; omega
          by_cases c3 : u.toNat = 9
          · have d4 : ((u.toNat : Int) == 9) = true := by simp; omega
            have hqb' := Lib.hid (show Sp.qb u = [92, 116] from by unfold Sp.qb; rw [if_neg c1, if_neg c2, if_pos c3])
            clear c1 c2 c3
            go_wp2_with fail
            refine (bwStr H ⟨#[92, 116]⟩ (by have := hlen'.out; omega) (by decide)).mono ?_
            rintro e w2 ⟨rfl, H2⟩
            go_wp2_with fail
            exact q_round hq' c hqb' H2
          · have d4 : ((u.toNat : Int) == 9) = false := by simp; omega
            by_cases c4 : u.toNat = 13
            · have d5 : ((u.toNat : Int) == 13) = true := by simp; omega
              have hqb' := Lib.hid (show Sp.qb u = [92, 114] from by unfold Sp.qb; rw [if_neg c1, if_neg c2, if_neg c3, if_pos c4])
              clear c1 c2 c3 c4
              go_wp2_with fail
              refine (bwStr H ⟨#[92, 114]⟩ (by have := hlen'.out; omega) (by decide)).mono ?_
              rintro e w2 ⟨rfl, H2⟩
              go_wp2_with fail
              exact q_round hq' c hqb' H2
            · have d5 : ((u.toNat : Int) == 13) = false := by simp; omega
              by_cases c5 : u.toNat < 32 ∨ 126 < u.toNat
              · have hqb' := Lib.hid (show Sp.qb u = [92, 120] ++ ([Sp.hexb (u.toNat / 16)] ++ [Sp.hexb (u.toNat % 16)]) from by unfold Sp.qb; rw [if_neg c1, if_neg c2, if_neg c3, if_neg c4, if_pos c5]; rfl)
                clear c1 c2 c3 c4
                obtain ⟨d, hd⟩ : ∃ d : Nat, d = u.toNat / 16 := ⟨_, rfl⟩
                obtain ⟨m, hm⟩ : ∃ m : Nat, m = u.toNat % 16 := ⟨_, rfl⟩
                rw [← hd, ← hm] at hqb'
                have hd16 : d < 16 := by omega
                have hm16 : m < 16 := by omega
                have hd' : (u.toNat : Int) / 16 = d := by omega
                have hm' : (u.toNat : Int) % 16 = m := by omega
                clear hd hm
                by_cases c6 : u.toNat < 32
                · have d6 : (u.toNat : Int) < 32 := by omega
                  clear c5 c6
                  go_wp2_with fail
                  refine (bwStr H ⟨#[92, 120]⟩ (by have := hlen'.out; omega) (by decide)).mono ?_
                  rintro e w2 ⟨rfl, H2⟩
                  go_wp2_with fail
                  refine (sixteen_any d w2 hd16).mono ?_
                  rintro e w2 ⟨rfl, rfl⟩
                  go_wp2_with fail
                  refine (bwByte H2 (Sp.hexb d) (by have := hlen'.out; simp; omega)).mono ?_
                  rintro e w3 ⟨rfl, H3⟩
                  go_wp2_with fail
                  refine (sixteen_any m w3 hm16).mono ?_
                  rintro e w3 ⟨rfl, rfl⟩
                  go_wp2_with fail
                  refine (bwByte H3 (Sp.hexb m) (by have := hlen'.out; simp; omega)).mono ?_
                  rintro e w4 ⟨rfl, H4⟩
                  go_wp2_with fail
                  exact q_round hq' c hqb' (app2 (app2 H4))
                · have d6 : ¬ (u.toNat : Int) < 32 := by omega
                  have d7 : 126 < (u.toNat : Int) := by omega
                  clear c5 c6
                  go_wp2_with fail
                  refine (bwStr H ⟨#[92, 120]⟩ (by have := hlen'.out; omega) (by decide)).mono ?_
                  rintro e w2 ⟨rfl, H2⟩
                  go_wp2_with fail
                  refine (sixteen_any d w2 hd16).mono ?_
                  rintro e w2 ⟨rfl, rfl⟩
                  go_wp2_with fail
                  refine (bwByte H2 (Sp.hexb d) (by have := hlen'.out; simp; omega)).mono ?_
                  rintro e w3 ⟨rfl, H3⟩
                  go_wp2_with fail
                  refine (sixteen_any m w3 hm16).mono ?_
                  rintro e w3 ⟨rfl, rfl⟩
                  go_wp2_with fail
                  refine (bwByte H3 (Sp.hexb m) (by have := hlen'.out; simp; omega)).mono ?_
                  rintro e w4 ⟨rfl, H4⟩
                  go_wp2_with fail
                  exact q_round hq' c hqb' (app2 (app2 H4))
              · have hqb' := Lib.hid (show Sp.qb u = [u] from by unfold Sp.qb; rw [if_neg c1, if_neg c2, if_neg c3, if_neg c4, if_neg c5])
                have d6 : ¬ (u.toNat : Int) < 32 := by omega
                have d7 : ¬ 126 < (u.toNat : Int) := by omega
                clear c1 c2 c3 c4 c5
                go_wp2_with fail
                refine (bwByte H u (by have := hlen'.out; omega)).mono ?_
                rintro e w2 ⟨rfl, H2⟩
                go_wp2_with fail
                exact q_round hq' c hqb' H2
    · rw [take_all s k c] at H hlen
      obtain ⟨X, hX⟩ : ∃ X, X = (34 :: Sp.body s.data.toList) := ⟨_, rfl⟩
      have hX' := Lib.hid (show Sp.quoteL s.data.toList = X ++ [34] from by rw [hX]; rfl)
      rw [← hX] at H hlen
      have hlen' := Lib.hid hlen
      clear hlen hX
      go_wp2_with fail
      refine (bwByte H 34 (by have := hlen'.out; omega)).mono ?_
      rintro e w2 ⟨rfl, H2⟩
      go_wp2_with fail
      refine (Tryd.Builder_String_any _ _ _ _ H2.out.1 H2.out.2.size).mono ?_
      rintro e w3 ⟨rfl, h3⟩
      have h3' := Lib.hid (H2.out.2.trans h3)
      clear h3
      go_wp2_with fail
      go_ret
      exact ⟨by rw [hX'.out]; rfl, h3'.out⟩
end Go.Proofs.YtajmdpndbfmdmaaDoor
