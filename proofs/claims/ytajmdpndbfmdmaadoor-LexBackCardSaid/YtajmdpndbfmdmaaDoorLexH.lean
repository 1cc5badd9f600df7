/-
  lex.may tells whether a token may be. Conditions: the number is a word of 64 bits; the text is shorter than 2^47 bytes; the cell of internal/bytealg.MaxLen holds a whole number.
-/
import Derived.Test.YtajmdpndbfmdmaaDoorLexE
import Derived.Test.YtajmdpndbfmdmaaDoorValB
import Derived.Deep.QuietTactic
import Derived.BigQuiet
namespace Go.Proofs.YtajmdpndbfmdmaaDoor
open Go Go.RowKit

theorem Below.drewN_ {B : Nat} {w w' : World} (h : Below B w w') (n : Nat) : Below B w (w'.drewN n) := ⟨h.os, h.tape, h.output, h.size, h.block⟩
theorem Fl.feq_key {x : Nat} (h : Fl.feq x 0 = true) : Fl.key x = 0 := by
  unfold Fl.feq at h
  simp only [Bool.and_eq_true, Bool.not_eq_true', decide_eq_true_iff] at h
  rw [h.2]; decide
theorem Lx.run_all (l : List UInt8) (n : Nat) (hn : l.length = n) : decide (Lx.runL l = n) = l.all Lx.nm := by
  subst hn
  unfold Lx.runL
  induction l with
  | nil => rfl
  | cons c l ih =>
    rw [List.takeWhile_cons, List.all_cons]
    by_cases h : Lx.nm c = true
    · rw [if_pos h, h, Bool.true_and, ← ih]
      simp
    · rw [if_neg h, Bool.eq_false_iff.2 h]; simp
theorem zero_feq {x : Nat} (hx : x < 18446744073709551616) : Fl.feq x 0 = Lx.zero x := by
  unfold Lx.zero
  rcases noughts hx with ⟨h, _, h3, _⟩ | ⟨h, h2, _⟩
  · rw [h]
    by_cases h0 : x = 0
    · simp [h0]
    · have hk := (Fl.feq_key h)
      rcases (Fl.key_zero hx).1 hk with e | e
      · exact absurd e h0
      · simp [e]
  · rw [h]
    by_cases e : x = 9223372036854775808
    · subst e; exact absurd h (by decide +kernel)
    · simp [h2, e]

set_option maxHeartbeats 4000000 in
theorem may_3 (a : Int) (T : ByteArray) (x : Nat) (m : Int) (w : World) (hx : x < 18446744073709551616) (_hT : T.size ≤ 140737488351232) (_hm : w.cell? ⟨1, 0, none⟩ = some (.int .i64 m)) (_hw : 1 < w.heap.size) :
    Calls Tryd.prog 89 #[tkA 3 a T x] w fun e w' => e = .returned (.bool (Lx.okB (3, T.data.toList, x))) ∧ Below w.heap.size w w' := by
  rw [show Lx.okB (3, T.data.toList, x) = (T.data.toList.isEmpty && Fl.fle 0 x && Fl.may x) from rfl]
  have e1 := Fl.ord_geq hx (y := 0) (by decide)
  have q := Lib.hid (fun w' => may_any x w' hx)
  unfold tkA
  by_cases h0 : T.size = 0
  · obtain rfl := empty_of h0
    rw [show ByteArray.empty.data.toList.isEmpty = true from rfl, Bool.true_and]
    cases f : Fl.fle 0 x
    · rw [f] at e1
      rw [Bool.false_and]
      clear f hx h0
      go_enter Tryd.func89, Tryd.ntmps89
      go_wp2
      go_ret
      exact ⟨rfl, below_one⟩
    · rw [f] at e1
      rw [Bool.true_and]
      generalize Fl.may x = V at *
      clear f hx h0
      go_enter Tryd.func89, Tryd.ntmps89
      go_wp2_with fail
      refine (q.out _).mono ?_; rintro e w' ⟨rfl, rfl⟩
      go_wp2
      go_ret
      exact ⟨rfl, below_one⟩
  · have he := isEmpty_of h0
    have hn : T.toList ≠ [] := by intro e; rw [e] at he; cases he
    rw [show T.data.toList.isEmpty = false from by rw [Lib.toList_data] at he; exact he, Bool.false_and, Bool.false_and]
    clear hx h0 e1
    go_enter Tryd.func89, Tryd.ntmps89
    go_wp2
    go_ret
    exact ⟨rfl, below_one⟩

set_option maxHeartbeats 4000000 in
theorem may_4 (a : Int) (T : ByteArray) (x : Nat) (m : Int) (w : World) (hx : x < 18446744073709551616) (_hT : T.size ≤ 140737488351232) (_hm : w.cell? ⟨1, 0, none⟩ = some (.int .i64 m)) (_hw : 1 < w.heap.size) :
    Calls Tryd.prog 89 #[tkA 4 a T x] w fun e w' => e = .returned (.bool (Lx.okB (4, T.data.toList, x))) ∧ Below w.heap.size w w' := by
  rw [show Lx.okB (4, T.data.toList, x) = (Lx.zero x && decide (T.data.toList.length ≤ 4096)) from rfl, size_list]
  have e1 := Fl.ord_eql hx (y := 0) (by decide)
  rw [zero_feq hx] at e1
  unfold tkA
  cases f : Lx.zero x
  · rw [f] at e1
    rw [Bool.false_and]
    clear f hx
    go_enter Tryd.func89, Tryd.ntmps89
    go_wp2
    go_ret
    exact ⟨rfl, below_one⟩
  · rw [f] at e1
    rw [Bool.true_and]
    by_cases h4 : T.size ≤ 4096
    · have h5 : decide ((T.size : Int) ≤ 4096) = true := by simp; omega
      rw [decide_eq_true h4]
      clear f hx h4
      go_enter Tryd.func89, Tryd.ntmps89
      go_wp2
      go_ret
      exact ⟨rfl, below_one⟩
    · have h5 : decide ((T.size : Int) ≤ 4096) = false := by simp; omega
      rw [decide_eq_false h4]
      clear f hx h4
      go_enter Tryd.func89, Tryd.ntmps89
      go_wp2
      go_ret
      exact ⟨rfl, below_one⟩

set_option maxHeartbeats 4000000 in
theorem may_5 (a : Int) (T : ByteArray) (x : Nat) (m : Int) (w : World) (hx : x < 18446744073709551616) (hT : T.size ≤ 140737488351232) (hm : w.cell? ⟨1, 0, none⟩ = some (.int .i64 m)) (hw : 1 < w.heap.size) :
    Calls Tryd.prog 89 #[tkA 5 a T x] w fun e w' => e = .returned (.bool (Lx.okB (5, T.data.toList, x))) ∧ Below w.heap.size w w' := by
  rw [show Lx.okB (5, T.data.toList, x) = (Lx.zero x && Lx.sgn T.data.toList) from rfl]
  have e1 := Fl.ord_eql hx (y := 0) (by decide)
  rw [zero_feq hx] at e1
  have q := Lib.hid (fun w' hm' => lexSign_any T m w' (by omega) hm')
  have hm' := Lib.hid hm
  unfold tkA
  cases f : Lx.zero x
  · rw [f] at e1
    rw [Bool.false_and]
    clear f hm hx
    go_enter Tryd.func89, Tryd.ntmps89
    go_wp2
    go_ret
    exact ⟨rfl, below_one⟩
  · rw [f] at e1
    rw [Bool.true_and]
    generalize Lx.sgn T.data.toList = V at *
    clear f hm hx
    go_enter Tryd.func89, Tryd.ntmps89
    go_wp2_with fail
    refine (q.out _ ?_).mono ?_
    · exact (World.cell?_alloc_lt _ _ ⟨1, 0, none⟩ hw).trans hm'.out
    rintro e w' ⟨rfl, rfl⟩
    go_wp2
    go_ret
    exact ⟨rfl, below_one⟩

set_option maxHeartbeats 4000000 in
theorem may_1 (a : Int) (T : ByteArray) (x : Nat) (m : Int) (w : World) (hx : x < 18446744073709551616) (hT : T.size ≤ 140737488351232) (hm : w.cell? ⟨1, 0, none⟩ = some (.int .i64 m)) (hw : 1 < w.heap.size) :
    Calls Tryd.prog 89 #[tkA 1 a T x] w fun e w' => e = .returned (.bool (Lx.okB (1, T.data.toList, x))) ∧ Below w.heap.size w w' := by
  rw [show Lx.okB (1, T.data.toList, x) = (Lx.zero x && !T.data.toList.isEmpty && decide (T.data.toList.length ≤ 4096) && (match T.data.toList with | [] => false | c :: _ => Lx.isL c) && T.data.toList.all Lx.nm && (Lx.wrd T.data.toList == decide ((1 : Nat) = 2))) from rfl, size_list]
  have e1 := Fl.ord_eql hx (y := 0) (by decide)
  rw [zero_feq hx] at e1
  have hm' := Lib.hid hm
  unfold tkA
  cases f : Lx.zero x
  · rw [f] at e1
    simp only [Bool.false_and]
    clear f hm hx
    go_enter Tryd.func89, Tryd.ntmps89
    go_wp2_with fail
    go_quiet (fail)
    go_wp2
    go_ret
    exact ⟨by first | rfl | simp, by first | exact Below.drewN_ below_one _ | exact below_one | exact Below.drew below_one⟩
  · rw [f] at e1
    by_cases h0 : T.size = 0
    · obtain rfl := empty_of h0
      simp only [show ByteArray.empty.data.toList.isEmpty = true from rfl, Bool.not_true, Bool.and_false, Bool.false_and]
      clear f hm hx h0
      go_enter Tryd.func89, Tryd.ntmps89
      go_wp2_with fail
      go_quiet (fail)
      go_wp2
      go_ret
      exact ⟨by first | rfl | simp, by first | exact Below.drewN_ below_one _ | exact below_one | exact Below.drew below_one⟩
    · have he := isEmpty_of h0
      have hn : T.toList ≠ [] := by intro e; rw [e] at he; cases he
      have hemp : T.data.toList.isEmpty = false := by rw [Lib.toList_data] at he; exact he
      have h0' : 0 < T.size := by omega
      have h0i : 0 < (T.size : Int) := by omega
      rw [hemp]
      by_cases h4 : T.size ≤ 4096
      · have h5 : decide ((T.size : Int) ≤ 4096) = true := by simp; omega
        rw [decide_eq_true h4]
        obtain ⟨c, hc⟩ : ∃ c, T[0]'h0' = c := ⟨_, rfl⟩
        have hcons := head_cons T h0'
        rw [hc] at hcons
        have hmatch : (match T.data.toList with | [] => false | c :: _ => Lx.isL c) = Lx.isL c := by rw [hcons]
        rw [hmatch]
        have qk := Lib.hid (fun w' => kind_any c w')
        cases hl : Lx.isL c
        · simp only [Bool.and_false, Bool.false_and]
          have hk : (kindI c == 1) = false := by unfold kindI; rw [hl]; simp only [Bool.false_eq_true, if_false]; (repeat' split) <;> rfl
          generalize kindI c = K at *
          clear f hm hx h0 h4 hcons hmatch hl hemp
          go_enter Tryd.func89, Tryd.ntmps89
          go_wp2_with fail
          go_quiet ((go_at_call 130; exact Calls.quiet_of_same ((qk.out _).mono fun _ _ h => ⟨h.1, h.2.symm⟩)))
          go_wp2
          go_ret
          exact ⟨by first | rfl | simp, by first | exact Below.drewN_ below_one _ | exact below_one | exact Below.drew below_one⟩
        · rw [kind_letter hl] at qk
          have qr := Lib.hid (fun w' => run_any T w' (by omega))
          have hrun : (decide (Lx.runL T.data.toList = T.size)) = T.data.toList.all Lx.nm := Lx.run_all T.data.toList T.size (size_list T)
          cases hal : T.data.toList.all Lx.nm
          · simp only [Bool.and_false, Bool.false_and]
            have hr2 : ((Lx.runL T.data.toList : Nat) : Int) ≠ (T.size : Int) := by intro e; rw [hal] at hrun; rw [decide_eq_true (by omega)] at hrun; cases hrun
            have hr3 : (((Lx.runL T.data.toList : Nat) : Int) == (T.size : Int)) = false := by rw [beq_eq_false_iff_ne]; exact hr2
            generalize Lx.runL T.data.toList = R at *
            clear f hm hx h0 h4 hcons hmatch hl hemp hrun hal hr2
            go_enter Tryd.func89, Tryd.ntmps89
            go_wp2_with fail
            go_quiet ((first | (go_at_call 130; exact Calls.quiet_of_same ((qk.out _).mono fun _ _ h => ⟨h.1, h.2.symm⟩)) | (go_at_call 131; exact Calls.quiet_of_same ((qr.out _).mono fun _ _ h => ⟨h.1, h.2.symm⟩))))
            go_wp2
            go_ret
            exact ⟨by first | rfl | simp, by first | exact Below.drewN_ below_one _ | exact below_one | exact Below.drew below_one⟩
          · have hr2 : Lx.runL T.data.toList = T.size := by rw [hal] at hrun; exact of_decide_eq_true hrun
            rw [hr2] at qr
            have hr3 : ((T.size : Int) == (T.size : Int)) = true := by simp
            have qw := Lib.hid (fun w' hm' => lexWord_any T m w' (by omega) hm')
            simp only [Bool.not_false, Bool.true_and, Bool.and_true]
            cases hV : Lx.wrd T.data.toList
            · rw [hV] at qw
              clear f hm hx h0 h4 hcons hmatch hl hemp hrun hal hr2 hV
              go_enter Tryd.func89, Tryd.ntmps89
              go_wp2_with fail
              go_quiet ((first | (go_at_call 130; exact Calls.quiet_of_same ((qk.out _).mono fun _ _ h => ⟨h.1, h.2.symm⟩)) | (go_at_call 131; exact Calls.quiet_of_same ((qr.out _).mono fun _ _ h => ⟨h.1, h.2.symm⟩)) | (go_at_call 53; refine Calls.quiet_of_same ((qw.out _ ?_).mono fun _ _ h => ⟨h.1, h.2.symm⟩); exact (World.cell?_alloc_lt _ _ ⟨1, 0, none⟩ hw).trans hm'.out)))
              go_wp2
              go_ret
              exact ⟨by first | rfl | simp, by first | exact Below.drewN_ below_one _ | exact below_one | exact Below.drew below_one⟩
            · rw [hV] at qw
              clear f hm hx h0 h4 hcons hmatch hl hemp hrun hal hr2 hV
              go_enter Tryd.func89, Tryd.ntmps89
              go_wp2_with fail
              go_quiet ((first | (go_at_call 130; exact Calls.quiet_of_same ((qk.out _).mono fun _ _ h => ⟨h.1, h.2.symm⟩)) | (go_at_call 131; exact Calls.quiet_of_same ((qr.out _).mono fun _ _ h => ⟨h.1, h.2.symm⟩)) | (go_at_call 53; refine Calls.quiet_of_same ((qw.out _ ?_).mono fun _ _ h => ⟨h.1, h.2.symm⟩); exact (World.cell?_alloc_lt _ _ ⟨1, 0, none⟩ hw).trans hm'.out)))
              go_wp2
              go_ret
              exact ⟨by first | rfl | simp, by first | exact Below.drewN_ below_one _ | exact below_one | exact Below.drew below_one⟩
      · have h5 : decide ((T.size : Int) ≤ 4096) = false := by simp; omega
        rw [decide_eq_false h4]
        simp only [Bool.and_false, Bool.false_and]
        clear f hm hx h0 h4 hemp
        go_enter Tryd.func89, Tryd.ntmps89
        go_wp2_with fail
        go_quiet (fail)
        go_wp2
        go_ret
        exact ⟨by first | rfl | simp, by first | exact Below.drewN_ below_one _ | exact below_one | exact Below.drew below_one⟩

set_option maxHeartbeats 4000000 in
theorem may_2 (a : Int) (T : ByteArray) (x : Nat) (m : Int) (w : World) (hx : x < 18446744073709551616) (hT : T.size ≤ 140737488351232) (hm : w.cell? ⟨1, 0, none⟩ = some (.int .i64 m)) (hw : 1 < w.heap.size) :
    Calls Tryd.prog 89 #[tkA 2 a T x] w fun e w' => e = .returned (.bool (Lx.okB (2, T.data.toList, x))) ∧ Below w.heap.size w w' := by
  rw [show Lx.okB (2, T.data.toList, x) = (Lx.zero x && !T.data.toList.isEmpty && decide (T.data.toList.length ≤ 4096) && (match T.data.toList with | [] => false | c :: _ => Lx.isL c) && T.data.toList.all Lx.nm && (Lx.wrd T.data.toList == decide ((2 : Nat) = 2))) from rfl, size_list]
  have e1 := Fl.ord_eql hx (y := 0) (by decide)
  rw [zero_feq hx] at e1
  have hm' := Lib.hid hm
  unfold tkA
  cases f : Lx.zero x
  · rw [f] at e1
    simp only [Bool.false_and]
    clear f hm hx
    go_enter Tryd.func89, Tryd.ntmps89
    go_wp2_with fail
    go_quiet (fail)
    go_wp2
    go_ret
    exact ⟨by first | rfl | simp, by first | exact Below.drewN_ below_one _ | exact below_one | exact Below.drew below_one⟩
  · rw [f] at e1
    by_cases h0 : T.size = 0
    · obtain rfl := empty_of h0
      simp only [show ByteArray.empty.data.toList.isEmpty = true from rfl, Bool.not_true, Bool.and_false, Bool.false_and]
      clear f hm hx h0
      go_enter Tryd.func89, Tryd.ntmps89
      go_wp2_with fail
      go_quiet (fail)
      go_wp2
      go_ret
      exact ⟨by first | rfl | simp, by first | exact Below.drewN_ below_one _ | exact below_one | exact Below.drew below_one⟩
    · have he := isEmpty_of h0
      have hn : T.toList ≠ [] := by intro e; rw [e] at he; cases he
      have hemp : T.data.toList.isEmpty = false := by rw [Lib.toList_data] at he; exact he
      have h0' : 0 < T.size := by omega
      have h0i : 0 < (T.size : Int) := by omega
      rw [hemp]
      by_cases h4 : T.size ≤ 4096
      · have h5 : decide ((T.size : Int) ≤ 4096) = true := by simp; omega
        rw [decide_eq_true h4]
        obtain ⟨c, hc⟩ : ∃ c, T[0]'h0' = c := ⟨_, rfl⟩
        have hcons := head_cons T h0'
        rw [hc] at hcons
        have hmatch : (match T.data.toList with | [] => false | c :: _ => Lx.isL c) = Lx.isL c := by rw [hcons]
        rw [hmatch]
        have qk := Lib.hid (fun w' => kind_any c w')
        cases hl : Lx.isL c
        · simp only [Bool.and_false, Bool.false_and]
          have hk : (kindI c == 1) = false := by unfold kindI; rw [hl]; simp only [Bool.false_eq_true, if_false]; (repeat' split) <;> rfl
          generalize kindI c = K at *
          clear f hm hx h0 h4 hcons hmatch hl hemp
          go_enter Tryd.func89, Tryd.ntmps89
          go_wp2_with fail
          go_quiet ((go_at_call 130; exact Calls.quiet_of_same ((qk.out _).mono fun _ _ h => ⟨h.1, h.2.symm⟩)))
          go_wp2
          go_ret
          exact ⟨by first | rfl | simp, by first | exact Below.drewN_ below_one _ | exact below_one | exact Below.drew below_one⟩
        · rw [kind_letter hl] at qk
          have qr := Lib.hid (fun w' => run_any T w' (by omega))
          have hrun : (decide (Lx.runL T.data.toList = T.size)) = T.data.toList.all Lx.nm := Lx.run_all T.data.toList T.size (size_list T)
          cases hal : T.data.toList.all Lx.nm
          · simp only [Bool.and_false, Bool.false_and]
            have hr2 : ((Lx.runL T.data.toList : Nat) : Int) ≠ (T.size : Int) := by intro e; rw [hal] at hrun; rw [decide_eq_true (by omega)] at hrun; cases hrun
            have hr3 : (((Lx.runL T.data.toList : Nat) : Int) == (T.size : Int)) = false := by rw [beq_eq_false_iff_ne]; exact hr2
            generalize Lx.runL T.data.toList = R at *
            clear f hm hx h0 h4 hcons hmatch hl hemp hrun hal hr2
            go_enter Tryd.func89, Tryd.ntmps89
            go_wp2_with fail
            go_quiet ((first | (go_at_call 130; exact Calls.quiet_of_same ((qk.out _).mono fun _ _ h => ⟨h.1, h.2.symm⟩)) | (go_at_call 131; exact Calls.quiet_of_same ((qr.out _).mono fun _ _ h => ⟨h.1, h.2.symm⟩))))
            go_wp2
            go_ret
            exact ⟨by first | rfl | simp, by first | exact Below.drewN_ below_one _ | exact below_one | exact Below.drew below_one⟩
          · have hr2 : Lx.runL T.data.toList = T.size := by rw [hal] at hrun; exact of_decide_eq_true hrun
            rw [hr2] at qr
            have hr3 : ((T.size : Int) == (T.size : Int)) = true := by simp
            have qw := Lib.hid (fun w' hm' => lexWord_any T m w' (by omega) hm')
            simp only [Bool.not_false, Bool.true_and, Bool.and_true]
            cases hV : Lx.wrd T.data.toList
            · rw [hV] at qw
              clear f hm hx h0 h4 hcons hmatch hl hemp hrun hal hr2 hV
              go_enter Tryd.func89, Tryd.ntmps89
              go_wp2_with fail
              go_quiet ((first | (go_at_call 130; exact Calls.quiet_of_same ((qk.out _).mono fun _ _ h => ⟨h.1, h.2.symm⟩)) | (go_at_call 131; exact Calls.quiet_of_same ((qr.out _).mono fun _ _ h => ⟨h.1, h.2.symm⟩)) | (go_at_call 53; refine Calls.quiet_of_same ((qw.out _ ?_).mono fun _ _ h => ⟨h.1, h.2.symm⟩); exact (World.cell?_alloc_lt _ _ ⟨1, 0, none⟩ hw).trans hm'.out)))
              go_wp2
              go_ret
              exact ⟨by first | rfl | simp, by first | exact Below.drewN_ below_one _ | exact below_one | exact Below.drew below_one⟩
            · rw [hV] at qw
              clear f hm hx h0 h4 hcons hmatch hl hemp hrun hal hr2 hV
              go_enter Tryd.func89, Tryd.ntmps89
              go_wp2_with fail
              go_quiet ((first | (go_at_call 130; exact Calls.quiet_of_same ((qk.out _).mono fun _ _ h => ⟨h.1, h.2.symm⟩)) | (go_at_call 131; exact Calls.quiet_of_same ((qr.out _).mono fun _ _ h => ⟨h.1, h.2.symm⟩)) | (go_at_call 53; refine Calls.quiet_of_same ((qw.out _ ?_).mono fun _ _ h => ⟨h.1, h.2.symm⟩); exact (World.cell?_alloc_lt _ _ ⟨1, 0, none⟩ hw).trans hm'.out)))
              go_wp2
              go_ret
              exact ⟨by first | rfl | simp, by first | exact Below.drewN_ below_one _ | exact below_one | exact Below.drew below_one⟩
      · have h5 : decide ((T.size : Int) ≤ 4096) = false := by simp; omega
        rw [decide_eq_false h4]
        simp only [Bool.and_false, Bool.false_and]
        clear f hm hx h0 h4 hemp
        go_enter Tryd.func89, Tryd.ntmps89
        go_wp2_with fail
        go_quiet (fail)
        go_wp2
        go_ret
        exact ⟨by first | rfl | simp, by first | exact Below.drewN_ below_one _ | exact below_one | exact Below.drew below_one⟩

set_option maxHeartbeats 4000000 in
theorem may_tok (k : Nat) (a : Int) (T : ByteArray) (x : Nat) (m : Int) (w : World) (hx : x < 18446744073709551616) (hT : T.size ≤ 140737488351232) (hm : w.cell? ⟨1, 0, none⟩ = some (.int .i64 m)) (hw : 1 < w.heap.size) :
    Calls Tryd.prog 89 #[tkA k a T x] w fun e w' => e = .returned (.bool (Lx.okB (k, T.data.toList, x))) ∧ Below w.heap.size w w' := by
  by_cases h1 : k = 1
  · subst h1; exact may_1 a T x m w hx hT hm hw
  · by_cases h2 : k = 2
    · subst h2; exact may_2 a T x m w hx hT hm hw
    · by_cases h3 : k = 3
      · subst h3; exact may_3 a T x m w hx hT hm hw
      · by_cases h4 : k = 4
        · subst h4; exact may_4 a T x m w hx hT hm hw
        · by_cases h5 : k = 5
          · subst h5; exact may_5 a T x m w hx hT hm hw
          · rw [show Lx.okB (k, T.data.toList, x) = false from by unfold Lx.okB; simp only; rw [if_neg h3, if_neg h4, if_neg h5, if_neg (by omega)]]
            have n1 : ((k : Int) == 1) = false := by rw [beq_eq_false_iff_ne]; omega
            have n2 : ((k : Int) == 2) = false := by rw [beq_eq_false_iff_ne]; omega
            have n3 : ((k : Int) == 3) = false := by rw [beq_eq_false_iff_ne]; omega
            have n4 : ((k : Int) == 4) = false := by rw [beq_eq_false_iff_ne]; omega
            have n5 : ((k : Int) == 5) = false := by rw [beq_eq_false_iff_ne]; omega
            unfold tkA
            clear h1 h2 h3 h4 h5 hm hx
            go_enter Tryd.func89, Tryd.ntmps89
            go_wp2
            go_ret
            exact ⟨rfl, below_one⟩
end Go.Proofs.YtajmdpndbfmdmaaDoor
