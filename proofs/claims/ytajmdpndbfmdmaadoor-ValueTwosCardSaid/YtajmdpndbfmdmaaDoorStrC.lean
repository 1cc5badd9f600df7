/-
  The document's Quote returns the string as the same literal. Conditions: strings of at most 70,000 bytes.
-/
import Derived.Test.YtajmdpndbfmdmaaDoorStrB
namespace Go.Proofs.YtajmdpndbfmdmaaDoor
open Go Go.RowKit

theorem sign_list : ∀ d, d < 16 → ((⟨#[48, 49, 50, 51, 52, 53, 54, 55, 56, 57, 97, 98, 99, 100, 101, 102]⟩ : ByteArray).extract d (d + 1)) = ⟨#[Sp.hexb d]⟩ := by decide

theorem sign_any (d : Nat) (w : World) (hd : d < 16) :
    Calls Tryd.prog 134 #[.int .u8 d] w fun e w' => e = .returned (.string ⟨#[Sp.hexb d]⟩) ∧ w = w' := by
  have he := Lib.hid (sign_list d hd)
  go_enter Tryd.func134, Tryd.ntmps134
  go_wp2
  go_ret
  exact ⟨by rw [← he.out]; rfl, rfl⟩

theorem extract_one (s : ByteArray) (k : Nat) (h : k < s.size) : (s.extract k (k + 1)).data.toList = [s[k]'h] := by
  rw [Lib.extract_data]
  have h' : k < s.data.toList.length := by rw [size_list]; exact h
  rw [List.drop_eq_getElem_cons h', Nat.add_sub_cancel_left, List.take_succ_cons, List.take_zero]
  congr 1

theorem rq_round {s X Y : ByteArray} {k : Nat} {u : UInt8} (hq : Hid (34 :: Sp.body (s.data.toList.take (k + 1)) = X.data.toList ++ Sp.qb u)) (c : (k : Int) < s.size)
    (hY : Y.data.toList = X.data.toList ++ Sp.qb u) :
    (∃ (k1 : Nat) (X1 : ByteArray), k1 ≤ s.size ∧ Value.int .i64 ((k : Int) + 1) = Value.int .i64 k1 ∧ Value.string Y = Value.string X1 ∧ Hid (X1.data.toList = 34 :: Sp.body (s.data.toList.take k1))) ∧
    ((s.size : Int) - intOf (Value.int .i64 ((k : Int) + 1))).toNat < ((s.size : Int) - intOf (Value.int .i64 (k : Int))).toNat := by
  refine ⟨⟨k + 1, Y, by omega, by simp, rfl, ?_⟩, by simp [intOf]; omega⟩
  rw [hY, hq.out]
  exact Lib.hid rfl

theorem refQuote_any (s : ByteArray) (w : World) (hs : s.size ≤ 70000) :
    Calls Tryd.prog 95 #[.string s] w fun e w' => e = .returned (.string (strOf (Sp.quoteL s.data.toList))) ∧ w = w' := by
  go_enter Tryd.func95, Tryd.ntmps95
  go_wp2
  go_loop [3, 4] (fun o i => ∃ (k : Nat) (X : ByteArray), k ≤ s.size ∧ i = .int .i64 k ∧ o = .string X ∧ Hid (X.data.toList = 34 :: Sp.body (s.data.toList.take k))) (fun _ i => ((s.size : Int) - intOf i).toNat)
  case atStart => exact ⟨0, _, by omega, rfl, rfl, Lib.hid rfl⟩
  case round =>
    obtain ⟨k, X, hk, rfl, rfl, H⟩ := hrel
    have hlen : X.size ≤ 300000 := by
      have := Sp.body_length (s.data.toList.take k)
      rw [List.length_take] at this
      rw [← size_list, H.out]
      simp; omega
    by_cases c : (k : Int) < s.size
    · obtain ⟨u, hu⟩ : ∃ u, u = s[k]'(by omega) := ⟨_, rfl⟩
      have hq : (34 :: Sp.body (s.data.toList.take (k + 1))) = X.data.toList ++ Sp.qb u := by
        rw [H.out, take_snoc s k (by omega), ← hu, Sp.body_snoc]; rfl
      have hu' := hu.symm
      clear hu
      have hq' := Lib.hid hq
      have hlt := u.toNat_lt
      clear hq
      have hx := (Lib.hid (extract_one s k (by omega)))
      rw [hu'] at hx
      by_cases c1 : u.toNat = 34 ∨ u.toNat = 92
      · have hqb' := Lib.hid (show Sp.qb u = [92, u] from by unfold Sp.qb; rw [if_pos c1])
        by_cases c0 : u.toNat = 34
        · have d1 : ((u.toNat : Int) == 34) = true := by simp; omega
          clear c1 c0
          go_wp2
          exact rq_round hq' c (by rw [hqb'.out, append_list, append_list, hx.out]; simp)
        · have d1 : ((u.toNat : Int) == 34) = false := by simp; omega
          have d2 : ((u.toNat : Int) == 92) = true := by simp; omega
          clear c1 c0
          go_wp2
          exact rq_round hq' c (by rw [hqb'.out, append_list, append_list, hx.out]; simp)
      · have d1 : ((u.toNat : Int) == 34) = false := by simp; omega
        have d2 : ((u.toNat : Int) == 92) = false := by simp; omega
        by_cases c2 : u.toNat = 10
        · have d3 : ((u.toNat : Int) == 10) = true := by simp; omega
          have hqb' := Lib.hid (show Sp.qb u = [92, 110] from by unfold Sp.qb; rw [if_neg c1, if_pos c2])
          clear c1 c2
          go_wp2
          exact rq_round hq' c (by rw [hqb'.out, append_list])
        · have d3 : ((u.toNat : Int) == 10) = false := by simp; omega
          by_cases c3 : u.toNat = 9
          · have d4 : ((u.toNat : Int) == 9) = true := by simp; omega
            have hqb' := Lib.hid (show Sp.qb u = [92, 116] from by unfold Sp.qb; rw [if_neg c1, if_neg c2, if_pos c3])
            clear c1 c2 c3
            go_wp2
            exact rq_round hq' c (by rw [hqb'.out, append_list])
          · have d4 : ((u.toNat : Int) == 9) = false := by simp; omega
            by_cases c4 : u.toNat = 13
            · have d5 : ((u.toNat : Int) == 13) = true := by simp; omega
              have hqb' := Lib.hid (show Sp.qb u = [92, 114] from by unfold Sp.qb; rw [if_neg c1, if_neg c2, if_neg c3, if_pos c4])
              clear c1 c2 c3 c4
              go_wp2
              exact rq_round hq' c (by rw [hqb'.out, append_list])
            · have d5 : ((u.toNat : Int) == 13) = false := by simp; omega
              by_cases c5 : u.toNat < 32 ∨ 126 < u.toNat
              · have hqb' := Lib.hid (show Sp.qb u = [92, 120, Sp.hexb (u.toNat / 16), Sp.hexb (u.toNat % 16)] from by unfold Sp.qb; rw [if_neg c1, if_neg c2, if_neg c3, if_neg c4, if_pos c5])
                clear c1 c2 c3 c4
                obtain ⟨d, hd⟩ : ∃ d : Nat, d = u.toNat / 16 := ⟨_, rfl⟩
                obtain ⟨m, hm⟩ : ∃ m : Nat, m = u.toNat % 16 := ⟨_, rfl⟩
                rw [← hd, ← hm] at hqb'
                have hd16 : d < 16 := by omega
                have hm16 : m < 16 := by omega
                have hd' : (u.toNat : Int) / 16 = d := by omega
                have hm' : (u.toNat : Int) % 16 = m := by omega
                clear hd hm
                by_cases c6 : u.toNat < 32
                · have d6 : (u.toNat : Int) < 32 := by omega
                  clear c5 c6
                  go_wp2_with fail
                  refine (sign_any d _ hd16).mono ?_
                  rintro e w2 ⟨rfl, rfl⟩
                  go_wp2_with fail
                  refine (sign_any m _ hm16).mono ?_
                  rintro e w2 ⟨rfl, rfl⟩
                  go_wp2
                  exact rq_round hq' c (by rw [hqb'.out]; simp)
                · have d6 : ¬ (u.toNat : Int) < 32 := by omega
                  have d7 : 126 < (u.toNat : Int) := by omega
                  clear c5 c6
                  go_wp2_with fail
                  refine (sign_any d _ hd16).mono ?_
                  rintro e w2 ⟨rfl, rfl⟩
                  go_wp2_with fail
                  refine (sign_any m _ hm16).mono ?_
                  rintro e w2 ⟨rfl, rfl⟩
                  go_wp2
                  exact rq_round hq' c (by rw [hqb'.out]; simp)
              · have hqb' := Lib.hid (show Sp.qb u = [u] from by unfold Sp.qb; rw [if_neg c1, if_neg c2, if_neg c3, if_neg c4, if_neg c5])
                have d6 : ¬ (u.toNat : Int) < 32 := by omega
                have d7 : ¬ 126 < (u.toNat : Int) := by omega
                clear c1 c2 c3 c4 c5
                go_wp2
                exact rq_round hq' c (by rw [hqb'.out, append_list, hx.out])
    · rw [take_all s k c] at H
      go_wp2
      go_ret
      refine ⟨?_, rfl⟩
      show Ending.returned (.string (X ++ ⟨#[34]⟩)) = _
      rw [strOf_inj (show (X ++ ⟨#[34]⟩ : ByteArray).data.toList = Sp.quoteL s.data.toList from by rw [append_list, H.out]; rfl)]
end Go.Proofs.YtajmdpndbfmdmaaDoor
