/-
  The document's Read returns the same. Conditions: texts of at most 70,000 bytes.
-/
import Derived.Test.YtajmdpndbfmdmaaDoorReaB
namespace Go.Proofs.YtajmdpndbfmdmaaDoor
open Go Go.RowKit

theorem take_from (s : ByteArray) (f k : Nat) (hf : f ≤ k) (h : k < s.size) : (s.data.toList.drop f).take (k + 1 - f) = (s.data.toList.drop f).take (k - f) ++ [s[k]'h] := by
  have h' : k - f < (s.data.toList.drop f).length := by rw [List.length_drop, size_list]; omega
  rw [show k + 1 - f = (k - f) + 1 from by omega, List.take_succ_eq_append_getElem h', List.getElem_drop]
  congr 2
  show s.data.toList[f + (k - f)]'_ = s.data.toList[k]'_
  congr 1; omega
theorem valL_append (l m : List UInt8) : valL l ≤ valL (l ++ m) := by
  induction m generalizing l with
  | nil => simp
  | cons c m ih =>
    have h := ih (l ++ [c])
    rw [valL_snoc] at h
    rw [List.append_cons]
    omega
theorem valL_take (l : List UInt8) (k : Nat) : valL (l.take k) ≤ valL l := by
  have := valL_append (l.take k) (l.drop k)
  rwa [List.take_append_drop] at this

/-- All digits from place f to place k. -/
def DAt (s : ByteArray) (f k : Nat) : Prop := ((s.data.toList.drop f).take (k - f)).all dig = true
/-- The worth of the digits from place f to place k. -/
def VAt (s : ByteArray) (f k : Nat) (v : Int) : Prop := v = valL ((s.data.toList.drop f).take (k - f)) ∧ v ≤ 9007199254740991
theorem DAt.start (s : ByteArray) (f : Nat) : DAt s f f := by unfold DAt; rw [Nat.sub_self]; rfl
theorem VAt.start (s : ByteArray) (f : Nat) : VAt s f f 0 := by unfold VAt; rw [Nat.sub_self]; exact ⟨rfl, by decide⟩
theorem DAt.step {s : ByteArray} {f k : Nat} (h : DAt s f k) (hf : f ≤ k) (hk : k < s.size) (u : UInt8) (hu : s[k]'hk = u) (hd : 48 ≤ u.toNat ∧ u.toNat ≤ 57) : DAt s f (k + 1) := by
  unfold DAt at h ⊢
  rw [take_from s f k hf hk, hu, List.all_append, h]
  simp [dig, hd.1, hd.2]
theorem DAt.fin {s : ByteArray} {f k : Nat} (h : DAt s f k) (hk : s.size ≤ k) : (s.data.toList.drop f).all dig = true := by
  unfold DAt at h
  rwa [List.take_of_length_le (by rw [List.length_drop, size_list]; omega)] at h
theorem dig_of {s : ByteArray} {f k : Nat} (h : (s.data.toList.drop f).all dig = true) (hf : f ≤ k) (hk : k < s.size) : 48 ≤ (s[k]'hk).toNat ∧ (s[k]'hk).toNat ≤ 57 := by
  have hm : s[k]'hk ∈ s.data.toList.drop f := by
    rw [List.mem_iff_getElem]
    refine ⟨k - f, by rw [List.length_drop, size_list]; omega, ?_⟩
    rw [List.getElem_drop]
    show s.data.toList[f + (k - f)]'_ = s.data.toList[k]'_
    congr 1; omega
  have := List.all_eq_true.1 h _ hm
  simpa [dig] using this
theorem VAt.step {s : ByteArray} {f k : Nat} {v : Int} (h : VAt s f k v) (hf : f ≤ k) (hk : k < s.size) (u : UInt8) (hu : s[k]'hk = u) (hd : 48 ≤ u.toNat ∧ u.toNat ≤ 57) :
    (¬ 9007199254740991 < 10 * v + (u.toNat : Int) - 48 → VAt s f (k + 1) (10 * v + (u.toNat : Int) - 48)) ∧ (9007199254740991 < 10 * v + (u.toNat : Int) - 48 → 9007199254740991 < valL (s.data.toList.drop f)) := by
  have e : valL ((s.data.toList.drop f).take (k + 1 - f)) = 10 * valL ((s.data.toList.drop f).take (k - f)) + (u.toNat - 48) := by rw [take_from s f k hf hk, hu, valL_snoc]
  have hv := h.1
  constructor
  · intro hb; exact ⟨by rw [e]; omega, by omega⟩
  · intro hb
    have := valL_take (s.data.toList.drop f) (k + 1 - f)
    omega
theorem VAt.fin {s : ByteArray} {f k : Nat} {v : Int} (h : VAt s f k v) (hk : s.size ≤ k) : v = valL (s.data.toList.drop f) ∧ v ≤ 9007199254740991 ∧ 0 ≤ v := by
  have h1 := h.1
  rw [List.take_of_length_le (by rw [List.length_drop, size_list]; omega)] at h1
  exact ⟨h1, h.2, by omega⟩
theorem readD_not {s : ByteArray} {f k : Nat} (hf : f ≤ k) (hk : k < s.size) (u : UInt8) (hu : s[k]'hk = u) (hd : ¬ (48 ≤ u.toNat ∧ u.toNat ≤ 57)) (neg : Bool) : readD neg (s.data.toList.drop f) = (none, 0) := by
  unfold readD
  split
  · rfl
  · rw [if_pos]
    rw [← Bool.not_eq_true]
    intro ha
    have := dig_of ha hf hk
    rw [hu] at this
    exact hd this
theorem readD_big {d : List UInt8} (h0 : d ≠ []) (ha : d.all dig = true) (h : 9007199254740991 < valL d) (neg : Bool) : readD neg d = (some 0, 10) := by
  unfold readD
  rw [if_neg h0, if_neg (by rw [ha]; simp), if_pos (.inl h)]
theorem readD_fin {d : List UInt8} (h0 : d ≠ []) (ha : d.all dig = true) (v : Int) (h : v = valL d) (hv : v ≤ 9007199254740991) (neg : Bool) :
    (neg = true → v = 0 → readD neg d = (some 0, 10)) ∧ ((neg = true → v ≠ 0) → readD neg d = (some (if neg then -v else v), 0)) := by
  unfold readD
  rw [if_neg h0, if_neg (by rw [ha]; simp)]
  constructor
  · intro h1 h2; rw [if_pos (.inr ⟨h1, by omega⟩)]
  · intro h1
    rw [if_neg (fun hc => hc.elim (fun h => by omega) (fun h2 => h1 h2.1 (by omega))), h]
theorem drop_ne {s : ByteArray} {f : Nat} (h : f < s.size) : s.data.toList.drop f ≠ [] := by
  intro e
  have := congrArg List.length e
  rw [List.length_drop, size_list] at this
  simp at this; omega

set_option maxHeartbeats 4000000 in
set_option maxRecDepth 100000 in
theorem refRead_any (s : ByteArray) (w : World) (hs : s.size ≤ 70000) :
    Calls Tryd.prog 40 #[.string s] w (OpPost (readL (trimV s).data.toList) w) := by
  have q := Lib.hid (bare_any s w hs)
  have hle := trimV_le s
  have qN := Lib.hid (fun w' => refNaN_any w')
  generalize trimV s = V at q hle ⊢
  obtain ⟨R, hR0⟩ : ∃ R, R = readL V.data.toList := ⟨_, rfl⟩
  rw [← hR0]
  by_cases c0 : V.size = 0
  · obtain rfl := empty_of c0
    have hR := Lib.hid hR0
    clear hR0 c0
    go_enter Tryd.func40, Tryd.ntmps40
    go_wp2_with fail
    refine q.out.mono ?_; rintro e w1 ⟨rfl, rfl⟩
    go_wp2_with fail
    go_ret2
    exact ⟨_, by rw [hR.out]; rfl, by rw [hR.out]; exact fits_z, Below.refl _ _⟩
  · have he := isEmpty_of c0
    have hp : 0 < V.size := by omega
    have hp' : 0 < (V.size : Int) := by omega
    obtain ⟨c, hc⟩ : ∃ c, V[0]'hp = c := ⟨_, rfl⟩
    have hcl := drop_cons V 0 hp
    rw [hc] at hcl
    have hlist : V.data.toList = c :: V.data.toList.drop 1 := hcl
    have hclt := c.toNat_lt
    rw [hlist, readL, ← hlist] at hR0
    by_cases c45 : c.toNat = 45
    · have d1 : ((c.toNat : Int) == 45) = true := by simp; omega
      rw [if_pos c45] at hR0
      have hL := Lib.hid hR0
      clear hR0 hcl hlist c45
      by_cases cd : V.size = 1
      · have hd' : ((1 : Int) == (V.size : Int)) = true := by simp; omega
        have hR : Hid (R = (none, 0)) := by
          rw [hL.out, List.drop_of_length_le (by rw [size_list]; omega)]; exact Lib.hid rfl
        go_enter Tryd.func40, Tryd.ntmps40
        go_wp2_with fail
        refine q.out.mono ?_; rintro e w1 ⟨rfl, rfl⟩
        go_wp2_with fail
        refine (qN.out _).mono ?_; rintro e w' ⟨z, rfl, hz, rfl⟩
        have hz' := Lib.hid hz
        clear hz
        go_wp2_with fail
        go_ret2
        exact ⟨_, by rw [hR.out]; rfl, by rw [hR.out]; exact hz'.out, Below.drew (Below.refl _ _)⟩
      · have hd' : ((1 : Int) == (V.size : Int)) = false := by simp; omega
        have h1 : 1 < V.size := by omega
        go_enter Tryd.func40, Tryd.ntmps40
        go_wp2_with fail
        refine q.out.mono ?_; rintro e w1 ⟨rfl, rfl⟩
        go_wp2_with fail
        go_loop [6] (fun i => ∃ k : Nat, 1 ≤ k ∧ k ≤ V.size ∧ i = .int .i64 k ∧ Hid (DAt V 1 k)) (fun i => ((V.size : Int) - intOf i).toNat)
        case atStart => exact ⟨1, by omega, by omega, rfl, DAt.start _ _⟩
        case round =>
          obtain ⟨k, hf, hk, rfl, H⟩ := hrel
          by_cases ck : (k : Int) < V.size
          · obtain ⟨u, hu⟩ : ∃ u, V[k]'(by omega) = u := ⟨_, rfl⟩
            by_cases hd : 48 ≤ u.toNat ∧ u.toNat ≤ 57
            · have e1 : ¬ (u.toNat : Int) < 48 := by omega
              have e2 : ¬ 57 < (u.toNat : Int) := by omega
              have H2 := Lib.hid (H.out.step hf (by omega) u hu hd)
              clear hd
              go_wp2_with fail
              go_round
              case rel => exact ⟨k + 1, by omega, by omega, by go_num, H2⟩
              case measure => simp [intOf]; omega
            · have hR := Lib.hid (hL.out.trans (readD_not hf (by omega) u hu hd true))
              by_cases e1 : (u.toNat : Int) < 48
              · clear hd
                go_wp2_with fail
                refine (qN.out _).mono ?_; rintro e w' ⟨z, rfl, hz, rfl⟩
                have hz' := Lib.hid hz
                clear hz
                go_wp2_with fail
                go_ret2
                exact ⟨_, by rw [hR.out]; rfl, by rw [hR.out]; exact hz'.out, Below.drew (Below.refl _ _)⟩
              · have e2 : 57 < (u.toNat : Int) := by omega
                clear hd
                go_wp2_with fail
                refine (qN.out _).mono ?_; rintro e w' ⟨z, rfl, hz, rfl⟩
                have hz' := Lib.hid hz
                clear hz
                go_wp2_with fail
                go_ret2
                exact ⟨_, by rw [hR.out]; rfl, by rw [hR.out]; exact hz'.out, Below.drew (Below.refl _ _)⟩
          · have hall := Lib.hid (H.out.fin (by omega))
            clear H
            go_wp2_with fail
            go_loop [7, 8] (fun n i => ∃ (j : Nat) (v : Int), 1 ≤ j ∧ j ≤ V.size ∧ i = .int .i64 j ∧ n = .int .i64 v ∧ 0 ≤ v ∧ Hid (VAt V 1 j v)) (fun _ i => ((V.size : Int) - intOf i).toNat)
            case atStart => exact ⟨1, 0, by omega, by omega, rfl, rfl, by omega, VAt.start _ _⟩
            case round =>
              obtain ⟨j, v, hfj, hj, rfl, rfl, hv0, HV⟩ := hrel
              have hv1 := HV.out.2
              by_cases cj : (j : Int) < V.size
              · obtain ⟨u, hu⟩ : ∃ u, V[j]'(by omega) = u := ⟨_, rfl⟩
                have hd := dig_of hall.out hfj (by omega : j < V.size)
                rw [hu] at hd
                obtain ⟨hd1, hd2⟩ := hd
                have hd1' : (48 : Int) ≤ u.toNat := by omega
                have hd2' : (u.toNat : Int) ≤ 57 := by omega
                obtain ⟨s1, s2⟩ := HV.out.step hfj (by omega) u hu ⟨hd1, hd2⟩
                by_cases hb : 9007199254740991 < 10 * v + (u.toNat : Int) - 48
                · have hR := Lib.hid (hL.out.trans (readD_big (drop_ne (by omega)) hall.out (s2 hb) true))
                  clear s1 s2 hd1 hd2
                  go_wp2_with fail
                  go_ret2
                  exact ⟨_, by rw [hR.out]; rfl, by rw [hR.out]; exact fits_z, Below.refl _ _⟩
                · have H2 := Lib.hid (s1 hb)
                  clear s1 s2 hd1 hd2
                  go_wp2_with fail
                  go_round
                  case rel => exact ⟨j + 1, _, by omega, by omega, by go_num, rfl, by omega, H2⟩
                  case measure => simp [intOf]; omega
              · obtain ⟨f1, f2, f3⟩ := HV.out.fin (by omega)
                obtain ⟨g1, g2⟩ := readD_fin (drop_ne (by omega : 1 < V.size)) hall.out v f1 f2 true
                clear f1
                by_cases v0 : v = 0
                · have hR := Lib.hid (hL.out.trans (g1 rfl v0))
                  subst v0
                  clear g1 g2
                  go_wp2_with fail
                  go_ret2
                  exact ⟨_, by rw [hR.out]; rfl, by rw [hR.out]; exact fits_z, Below.refl _ _⟩
                · have hR := Lib.hid (hL.out.trans (g2 (fun _ => v0)))
                  have hW := Fl.floatOfInt_W (-v)
                  have v0' : (v == 0) = false := by simpa using v0
                  clear g1 g2
                  go_wp2_with fail
                  go_ret2
                  exact ⟨_, by rw [hR.out]; rfl, by rw [hR.out]; exact fits_W (by first | omega | (simp; omega)), Below.refl _ _⟩
    · have d1 : ((c.toNat : Int) == 45) = false := by simp; omega
      rw [if_neg c45] at hR0
      by_cases c43 : c.toNat = 43
      · have d2 : ((c.toNat : Int) == 43) = true := by simp; omega
        rw [if_pos c43] at hR0
        have hL := Lib.hid hR0
        clear hR0 hcl hlist c45 c43
        by_cases cd : V.size = 1
        · have hd' : ((1 : Int) == (V.size : Int)) = true := by simp; omega
          have hR : Hid (R = (none, 0)) := by
            rw [hL.out, List.drop_of_length_le (by rw [size_list]; omega)]; exact Lib.hid rfl
          go_enter Tryd.func40, Tryd.ntmps40
          go_wp2_with fail
          refine q.out.mono ?_; rintro e w1 ⟨rfl, rfl⟩
          go_wp2_with fail
          refine (qN.out _).mono ?_; rintro e w' ⟨z, rfl, hz, rfl⟩
          have hz' := Lib.hid hz
          clear hz
          go_wp2_with fail
          go_ret2
          exact ⟨_, by rw [hR.out]; rfl, by rw [hR.out]; exact hz'.out, Below.drew (Below.refl _ _)⟩
        · have hd' : ((1 : Int) == (V.size : Int)) = false := by simp; omega
          have h1 : 1 < V.size := by omega
          go_enter Tryd.func40, Tryd.ntmps40
          go_wp2_with fail
          refine q.out.mono ?_; rintro e w1 ⟨rfl, rfl⟩
          go_wp2_with fail
          go_loop [6] (fun i => ∃ k : Nat, 1 ≤ k ∧ k ≤ V.size ∧ i = .int .i64 k ∧ Hid (DAt V 1 k)) (fun i => ((V.size : Int) - intOf i).toNat)
          case atStart => exact ⟨1, by omega, by omega, rfl, DAt.start _ _⟩
          case round =>
            obtain ⟨k, hf, hk, rfl, H⟩ := hrel
            by_cases ck : (k : Int) < V.size
            · obtain ⟨u, hu⟩ : ∃ u, V[k]'(by omega) = u := ⟨_, rfl⟩
              by_cases hd : 48 ≤ u.toNat ∧ u.toNat ≤ 57
              · have e1 : ¬ (u.toNat : Int) < 48 := by omega
                have e2 : ¬ 57 < (u.toNat : Int) := by omega
                have H2 := Lib.hid (H.out.step hf (by omega) u hu hd)
                clear hd
                go_wp2_with fail
                go_round
                case rel => exact ⟨k + 1, by omega, by omega, by go_num, H2⟩
                case measure => simp [intOf]; omega
              · have hR := Lib.hid (hL.out.trans (readD_not hf (by omega) u hu hd false))
                by_cases e1 : (u.toNat : Int) < 48
                · clear hd
                  go_wp2_with fail
                  refine (qN.out _).mono ?_; rintro e w' ⟨z, rfl, hz, rfl⟩
                  have hz' := Lib.hid hz
                  clear hz
                  go_wp2_with fail
                  go_ret2
                  exact ⟨_, by rw [hR.out]; rfl, by rw [hR.out]; exact hz'.out, Below.drew (Below.refl _ _)⟩
                · have e2 : 57 < (u.toNat : Int) := by omega
                  clear hd
                  go_wp2_with fail
                  refine (qN.out _).mono ?_; rintro e w' ⟨z, rfl, hz, rfl⟩
                  have hz' := Lib.hid hz
                  clear hz
                  go_wp2_with fail
                  go_ret2
                  exact ⟨_, by rw [hR.out]; rfl, by rw [hR.out]; exact hz'.out, Below.drew (Below.refl _ _)⟩
            · have hall := Lib.hid (H.out.fin (by omega))
              clear H
              go_wp2_with fail
              go_loop [7, 8] (fun n i => ∃ (j : Nat) (v : Int), 1 ≤ j ∧ j ≤ V.size ∧ i = .int .i64 j ∧ n = .int .i64 v ∧ 0 ≤ v ∧ Hid (VAt V 1 j v)) (fun _ i => ((V.size : Int) - intOf i).toNat)
              case atStart => exact ⟨1, 0, by omega, by omega, rfl, rfl, by omega, VAt.start _ _⟩
              case round =>
                obtain ⟨j, v, hfj, hj, rfl, rfl, hv0, HV⟩ := hrel
                have hv1 := HV.out.2
                by_cases cj : (j : Int) < V.size
                · obtain ⟨u, hu⟩ : ∃ u, V[j]'(by omega) = u := ⟨_, rfl⟩
                  have hd := dig_of hall.out hfj (by omega : j < V.size)
                  rw [hu] at hd
                  obtain ⟨hd1, hd2⟩ := hd
                  have hd1' : (48 : Int) ≤ u.toNat := by omega
                  have hd2' : (u.toNat : Int) ≤ 57 := by omega
                  obtain ⟨s1, s2⟩ := HV.out.step hfj (by omega) u hu ⟨hd1, hd2⟩
                  by_cases hb : 9007199254740991 < 10 * v + (u.toNat : Int) - 48
                  · have hR := Lib.hid (hL.out.trans (readD_big (drop_ne (by omega)) hall.out (s2 hb) false))
                    clear s1 s2 hd1 hd2
                    go_wp2_with fail
                    go_ret2
                    exact ⟨_, by rw [hR.out]; rfl, by rw [hR.out]; exact fits_z, Below.refl _ _⟩
                  · have H2 := Lib.hid (s1 hb)
                    clear s1 s2 hd1 hd2
                    go_wp2_with fail
                    go_round
                    case rel => exact ⟨j + 1, _, by omega, by omega, by go_num, rfl, by omega, H2⟩
                    case measure => simp [intOf]; omega
                · obtain ⟨f1, f2, f3⟩ := HV.out.fin (by omega)
                  obtain ⟨g1, g2⟩ := readD_fin (drop_ne (by omega : 1 < V.size)) hall.out v f1 f2 false
                  clear f1
                  have hR := Lib.hid (hL.out.trans (g2 (fun h => by cases h)))
                  have hW := Fl.floatOfInt_W v
                  clear g1 g2
                  go_wp2_with fail
                  go_ret2
                  exact ⟨_, by rw [hR.out]; rfl, by rw [hR.out]; exact fits_W (by first | omega | (simp; omega)), Below.refl _ _⟩
      · have d2 : ((c.toNat : Int) == 43) = false := by simp; omega
        rw [if_neg c43] at hR0
        have hL : Hid (R = readD false (V.data.toList.drop 0)) := hR0
        have hd' : ((0 : Int) == (V.size : Int)) = false := by simp; omega
        clear hR0 hcl hlist c45 c43
        go_enter Tryd.func40, Tryd.ntmps40
        go_wp2_with fail
        refine q.out.mono ?_; rintro e w1 ⟨rfl, rfl⟩
        go_wp2_with fail
        go_loop [6] (fun i => ∃ k : Nat, 0 ≤ k ∧ k ≤ V.size ∧ i = .int .i64 k ∧ Hid (DAt V 0 k)) (fun i => ((V.size : Int) - intOf i).toNat)
        case atStart => exact ⟨0, by omega, by omega, rfl, DAt.start _ _⟩
        case round =>
          obtain ⟨k, hf, hk, rfl, H⟩ := hrel
          by_cases ck : (k : Int) < V.size
          · obtain ⟨u, hu⟩ : ∃ u, V[k]'(by omega) = u := ⟨_, rfl⟩
            by_cases hd : 48 ≤ u.toNat ∧ u.toNat ≤ 57
            · have e1 : ¬ (u.toNat : Int) < 48 := by omega
              have e2 : ¬ 57 < (u.toNat : Int) := by omega
              have H2 := Lib.hid (H.out.step hf (by omega) u hu hd)
              clear hd
              go_wp2_with fail
              go_round
              case rel => exact ⟨k + 1, by omega, by omega, by go_num, H2⟩
              case measure => simp [intOf]; omega
            · have hR := Lib.hid (hL.out.trans (readD_not hf (by omega) u hu hd false))
              by_cases e1 : (u.toNat : Int) < 48
              · clear hd
                go_wp2_with fail
                refine (qN.out _).mono ?_; rintro e w' ⟨z, rfl, hz, rfl⟩
                have hz' := Lib.hid hz
                clear hz
                go_wp2_with fail
                go_ret2
                exact ⟨_, by rw [hR.out]; rfl, by rw [hR.out]; exact hz'.out, Below.drew (Below.refl _ _)⟩
              · have e2 : 57 < (u.toNat : Int) := by omega
                clear hd
                go_wp2_with fail
                refine (qN.out _).mono ?_; rintro e w' ⟨z, rfl, hz, rfl⟩
                have hz' := Lib.hid hz
                clear hz
                go_wp2_with fail
                go_ret2
                exact ⟨_, by rw [hR.out]; rfl, by rw [hR.out]; exact hz'.out, Below.drew (Below.refl _ _)⟩
          · have hall := Lib.hid (H.out.fin (by omega))
            clear H
            go_wp2_with fail
            go_loop [7, 8] (fun n i => ∃ (j : Nat) (v : Int), 0 ≤ j ∧ j ≤ V.size ∧ i = .int .i64 j ∧ n = .int .i64 v ∧ 0 ≤ v ∧ Hid (VAt V 0 j v)) (fun _ i => ((V.size : Int) - intOf i).toNat)
            case atStart => exact ⟨0, 0, by omega, by omega, rfl, rfl, by omega, VAt.start _ _⟩
            case round =>
              obtain ⟨j, v, hfj, hj, rfl, rfl, hv0, HV⟩ := hrel
              have hv1 := HV.out.2
              by_cases cj : (j : Int) < V.size
              · obtain ⟨u, hu⟩ : ∃ u, V[j]'(by omega) = u := ⟨_, rfl⟩
                have hd := dig_of hall.out hfj (by omega : j < V.size)
                rw [hu] at hd
                obtain ⟨hd1, hd2⟩ := hd
                have hd1' : (48 : Int) ≤ u.toNat := by omega
                have hd2' : (u.toNat : Int) ≤ 57 := by omega
                obtain ⟨s1, s2⟩ := HV.out.step hfj (by omega) u hu ⟨hd1, hd2⟩
                by_cases hb : 9007199254740991 < 10 * v + (u.toNat : Int) - 48
                · have hR := Lib.hid (hL.out.trans (readD_big (drop_ne (by omega)) hall.out (s2 hb) false))
                  clear s1 s2 hd1 hd2
                  go_wp2_with fail
                  go_ret2
                  exact ⟨_, by rw [hR.out]; rfl, by rw [hR.out]; exact fits_z, Below.refl _ _⟩
                · have H2 := Lib.hid (s1 hb)
                  clear s1 s2 hd1 hd2
                  go_wp2_with fail
                  go_round
                  case rel => exact ⟨j + 1, _, by omega, by omega, by go_num, rfl, by omega, H2⟩
                  case measure => simp [intOf]; omega
              · obtain ⟨f1, f2, f3⟩ := HV.out.fin (by omega)
                obtain ⟨g1, g2⟩ := readD_fin (drop_ne (by omega : 0 < V.size)) hall.out v f1 f2 false
                clear f1
                have hR := Lib.hid (hL.out.trans (g2 (fun h => by cases h)))
                have hW := Fl.floatOfInt_W v
                clear g1 g2
                go_wp2_with fail
                go_ret2
                exact ⟨_, by rw [hR.out]; rfl, by rw [hR.out]; exact fits_W (by first | omega | (simp; omega)), Below.refl _ _⟩
end Go.Proofs.YtajmdpndbfmdmaaDoor
