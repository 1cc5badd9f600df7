/-
  The walk of bailifflaw01.NumBack: it returns true. Conditions: the arguments are words of 64 bits.
-/
import Derived.Test.YtajmdpndbfmdmaaBackA
namespace Go.Proofs.Ytajmdpndbfmdmaa
open Go Go.RowKit

theorem lim_small {n : Int} (h : n.natAbs < 9007199254740992) : Fl.lim n = (some n, 0) := by unfold Fl.lim; rw [if_pos h]
theorem lim_big {n : Int} (h : ¬ n.natAbs < 9007199254740992) : Fl.lim n = (some 0, 10) := by unfold Fl.lim; rw [if_neg h]

theorem back_sum (a b : Int) (ha : a.natAbs < 9007199254740992) : Fl.subS (a + b) b = (some a, 0) := by
  unfold Fl.subS; rw [show a + b - b = a from by omega, lim_small ha]

theorem back_mul (a b : Int) (hb : b ≠ 0) (h : ¬ (a * b = 0 ∧ (a < 0 ∨ b < 0))) : Fl.divS (a * b) b = (some a, 0) := by
  unfold Fl.divS
  rw [if_neg hb, if_neg (by rw [Int.mul_tmod_left]; simp), if_neg (fun h' => h ⟨h'.1, .inr h'.2⟩), Int.mul_tdiv_cancel _ hb]

theorem back_div (a b : Int) (ha : a.natAbs < 9007199254740992) (ht : a.tmod b = 0) (h : ¬ (a = 0 ∧ b < 0)) : Fl.mulS (a.tdiv b) b = (some a, 0) := by
  have hab : a.tdiv b * b = a := by have := Int.tdiv_mul_add_tmod a b; omega
  unfold Fl.mulS
  rw [hab, if_neg, lim_small ha]
  rintro ⟨h0, h1⟩
  subst h0
  rw [Int.zero_tdiv] at h1
  rcases h1 with h1 | h1
  · omega
  · exact h ⟨rfl, h1⟩

theorem back_rem (a b : Int) (ha : a.natAbs < 9007199254740992) (hb : b ≠ 0) :
    Fl.subS a (a.tmod b) = (some (a - a.tmod b), 0) ∧ (a - a.tmod b).natAbs < 9007199254740992 ∧ (a - a.tmod b ≠ 0 → Fl.divS (a - a.tmod b) b = (some (a.tdiv b), 0)) := by
  have hab : a - a.tmod b = a.tdiv b * b := by have := Int.tdiv_mul_add_tmod a b; omega
  have hs : (a - a.tmod b).natAbs ≤ a.natAbs := by
    have h1 := Int.natAbs_tmod a b
    have h2 : a.natAbs % b.natAbs ≤ a.natAbs := Nat.mod_le _ _
    have h3 : 0 ≤ a → 0 ≤ a.tmod b := fun h => Int.tmod_nonneg b h
    have h4 : a ≤ 0 → a.tmod b ≤ 0 := fun h => by
      have := Int.tmod_nonneg b (a := -a) (by omega)
      rw [Int.neg_tmod] at this; omega
    omega
  refine ⟨?_, by omega, fun hne => ?_⟩
  · unfold Fl.subS; rw [lim_small (by omega)]
  · rw [hab] at hne ⊢
    unfold Fl.divS
    rw [if_neg hb, if_neg (by rw [Int.mul_tmod_left]; simp), if_neg (fun h => hne h.1), Int.mul_tdiv_cancel _ hb]

theorem tmod_signs (a b : Int) : (0 ≤ a → 0 ≤ a.tmod b) ∧ (a ≤ 0 → a.tmod b ≤ 0) ∧ (b ≠ 0 → (a.tmod b).natAbs < b.natAbs) := by
  refine ⟨fun h => Int.tmod_nonneg b h, fun h => ?_, fun h => ?_⟩
  · have := Int.tmod_nonneg b (a := -a) (by omega)
    rw [Int.neg_tmod] at this; omega
  · rw [Int.natAbs_tmod]; exact Nat.mod_lt _ (by omega)

set_option maxHeartbeats 1600000 in
set_option maxRecDepth 100000 in
theorem numBack_ints (a b : Int) (ha : a.natAbs < 9007199254740992) (hb : b.natAbs < 9007199254740992) (w : World) :
    Calls Try.prog 9 #[.float .f64 (Fl.W a), .float .f64 (Fl.W b)] w fun e w' => e = .returned (.bool true) ∧ Below w.heap.size w w' := by
  have HA := Lib.hid ha
  have HB := Lib.hid hb
  have la := Fl.W_lt ha
  have lb := Fl.W_lt hb
  have q1 := Lib.hid (alive_true)
  have q2 := Lib.hid (fun w' => may_any (Fl.W a) w' la)
  have q3 := Lib.hid (fun w' => may_any (Fl.W b) w' lb)
  have q4 := Lib.hid (fun w' => none_any (Fl.W a) w' la)
  have q5 := Lib.hid (fun w' => none_any (Fl.W b) w' lb)
  rw [Fl.may_W, decide_eq_true ha] at q2
  rw [Fl.may_W, decide_eq_true hb] at q3
  rw [Fl.isN_W ha] at q4
  rw [Fl.isN_W hb] at q5
  have q6 := Lib.hid (fun w' => Add_any (Fl.W a) (Fl.W b) w' la lb)
  rw [two_W ha hb] at q6
  have q7 := Lib.hid (fun w' => Mul_any (Fl.W a) (Fl.W b) w' la lb)
  rw [two_W ha hb] at q7
  have q8 := Lib.hid (fun w' => Div_any (Fl.W a) (Fl.W b) w' la lb)
  rw [two_W ha hb] at q8
  have q9 := Lib.hid (fun w' => Rem_any (Fl.W a) (Fl.W b) w' la lb)
  rw [two_W ha hb] at q9
  obtain ⟨v6, e6, h6⟩ : ∃ v e, (v, e) = Fl.addS a b := ⟨_, _, rfl⟩
  obtain ⟨v7, e7, h7⟩ : ∃ v e, (v, e) = Fl.mulS a b := ⟨_, _, rfl⟩
  obtain ⟨v8, e8, h8⟩ : ∃ v e, (v, e) = Fl.divS a b := ⟨_, _, rfl⟩
  obtain ⟨v9, e9, h9⟩ : ∃ v e, (v, e) = Fl.remS a b := ⟨_, _, rfl⟩
  rw [← h6] at q6
  rw [← h7] at q7
  rw [← h8] at q8
  rw [← h9] at q9
  have H6 := Lib.hid h6
  have H7 := Lib.hid h7
  have H8 := Lib.hid h8
  have H9 := Lib.hid h9
  have t1 := Fl.ord_neq la la
  rw [Fl.feq_W ha ha, decide_eq_true rfl] at t1
  have t2 := Fl.ord_neq lb (y := 0) (by omega)
  rw [feq_zero_W hb] at t2
  have t3 := Fl.ord_neq la (y := 0) (by omega)
  rw [feq_zero_W ha] at t3
  have t4 := Fl.ord_gtr lb (y := 0) (by omega)
  have t4' := Fl.flt_W (a := 0) (by decide) hb
  rw [Fl.W_zero] at t4'
  rw [t4'] at t4
  have t5 := Fl.ord_eql lb (y := 0) (by omega)
  rw [feq_zero_W hb] at t5
  have T2 := Lib.hid t2
  have T3 := Lib.hid t3
  have T4 := Lib.hid t4
  have T5 := Lib.hid t5
  have LA := Lib.hid la
  have LB := Lib.hid lb
  clear ha hb la lb h6 h7 h8 h9 t2 t3 t4 t4' t5
  go_enter Try.func9, Try.ntmps9
  go_wp2_with fail
  refine (q1.out _).mono ?_; rintro e w1 ⟨rfl, b1⟩
  have B1 := Lib.hid b1
  clear b1
  go_wp2_with fail
  refine (q2.out _).mono ?_; rintro e w' ⟨rfl, rfl⟩
  go_wp2_with fail
  refine (q3.out _).mono ?_; rintro e w' ⟨rfl, rfl⟩
  go_wp2_with fail
  refine (q4.out _).mono ?_; rintro e w' ⟨rfl, rfl⟩
  go_wp2_with fail
  refine (q5.out _).mono ?_; rintro e w' ⟨rfl, rfl⟩
  go_wp2_with fail
  refine (q6.out _).mono ?_; rintro e w2 ⟨z6, rfl, f6, b2⟩
  have F6 := Lib.hid f6
  have B2 := Lib.hid (show Below w.heap.size w w2 from B1.out.trans (b2.mono (by have := B1.out.size; omega)))
  clear f6 b2
  go_upto_if 47 with fail
  go_cut [] (fun wx => Below w.heap.size w wx)
  case first =>
    have h6 := H6.out
    unfold Fl.addS at h6
    by_cases c : (a + b).natAbs < 9007199254740992
    · rw [lim_small c] at h6
      obtain ⟨rfl, rfl⟩ := Prod.mk.inj h6
      obtain ⟨rfl, _⟩ := F6.out
      have s := fun w' => Sub_any (Fl.W (a + b)) (Fl.W b) w' (Fl.W_lt c) LB.out
      rw [two_W c HB.out, back_sum a b HA.out] at s
      have s' := Lib.hid s
      clear s h6 c
      go_wp2_with fail
      refine (s'.out _).mono ?_; rintro e w3 ⟨z, rfl, ⟨rfl, _⟩, b3⟩
      have B3 := Lib.hid (show Below w.heap.size w w3 from B2.out.trans (b3.mono (by have := B2.out.size; omega)))
      clear b3
      go_wp2_with fail
      go_meet
      exact B3.out
    · rw [lim_big c] at h6
      obtain ⟨rfl, rfl⟩ := Prod.mk.inj h6
      clear h6 c
      go_wp2_with fail
      go_meet
      exact B2.out
  case rest =>
    have B2' := Lib.hid hcut
    clear hcut B2 F6 H6
    go_wp2_with fail
    refine (q7.out _).mono ?_; rintro e w2 ⟨z7, rfl, f7, b2⟩
    have F7 := Lib.hid f7
    have B2 := Lib.hid (show Below w.heap.size w w2 from B2'.out.trans (b2.mono (by have := B2'.out.size; omega)))
    clear f7 b2
    obtain ⟨C7, hC7⟩ : ∃ C, C = (decide (e7 = 0) && (!decide (b = 0) && (!decide (a = 0) || decide (0 < b)))) := ⟨_, rfl⟩
    have K7 := Lib.hid hC7
    clear hC7
    go_upto_region 10 with fail
    go_cut [80] (fun s wx => s = .bool C7 ∧ Below w.heap.size w wx)
    case first =>
      have t2 := T2.out
      have t3 := T3.out
      have t4 := T4.out
      by_cases c1 : e7 = 0
      · by_cases c2 : b = 0
        · rw [decide_eq_true c2] at t2
          have hk := Lib.hid (show C7 = false by rw [K7.out, decide_eq_true c2]; simp)
          clear c2 t3 t4
          subst c1
          go_wp2_with fail
          go_meet
          exact ⟨by rw [hk.out], B2.out⟩
        · rw [decide_eq_false c2] at t2
          by_cases c3 : a = 0
          · rw [decide_eq_true c3] at t3
            have hk := Lib.hid (show C7 = decide (0 < b) by rw [K7.out, decide_eq_true c1, decide_eq_false c2, decide_eq_true c3]; simp)
            clear c2 c3
            subst c1
            go_wp2_with fail
            go_meet
            exact ⟨by rw [hk.out], B2.out⟩
          · rw [decide_eq_false c3] at t3
            have hk := Lib.hid (show C7 = true by rw [K7.out, decide_eq_true c1, decide_eq_false c2, decide_eq_false c3]; simp)
            clear c2 c3 t4
            subst c1
            go_wp2_with fail
            go_meet
            exact ⟨by rw [hk.out], B2.out⟩
      · have hk := Lib.hid (show C7 = false by rw [K7.out, decide_eq_false c1]; simp)
        have e : (e7 == 0) = false := by rw [beq_eq_false_iff_ne]; exact c1
        clear c1 t2 t3 t4
        go_wp2_with fail
        go_meet
        exact ⟨by rw [hk.out], B2.out⟩
    case rest =>
      obtain ⟨rfl, hcut⟩ := hcut
      have B2a := Lib.hid hcut
      clear hcut B2 B2'
      go_upto_if 80 with fail
      go_cut [] (fun wx => Below w.heap.size w wx)
      case first =>
        cases hc : C7 with
        | false =>
          clear hc
          go_wp2_with fail
          go_meet
          exact B2a.out
        | true =>
          have h7 := H7.out
          have hK := K7.out
          rw [hc] at hK
          have hK2 := hK.symm
          simp only [Bool.and_eq_true, decide_eq_true_eq, Bool.not_eq_true', decide_eq_false_iff_not, Bool.or_eq_true] at hK2
          obtain ⟨k1, k2, k3⟩ := hK2
          unfold Fl.mulS at h7
          by_cases c : a * b = 0 ∧ (a < 0 ∨ b < 0)
          · rw [if_pos c] at h7
            have := (Prod.mk.inj h7).2
            omega
          · rw [if_neg c] at h7
            by_cases c2 : (a * b).natAbs < 9007199254740992
            · rw [lim_small c2] at h7
              obtain ⟨rfl, rfl⟩ := Prod.mk.inj h7
              obtain ⟨rfl, _⟩ := F7.out
              have s := fun w' => Div_any (Fl.W (a * b)) (Fl.W b) w' (Fl.W_lt c2) LB.out
              rw [two_W c2 HB.out, back_mul a b k2 c] at s
              have s' := Lib.hid s
              clear s h7 c c2 hc hK k1 k2 k3
              go_wp2_with fail
              refine (s'.out _).mono ?_; rintro e w3 ⟨z, rfl, ⟨rfl, _⟩, b3⟩
              have B3 := Lib.hid (show Below w.heap.size w w3 from B2a.out.trans (b3.mono (by have := B2a.out.size; omega)))
              clear b3
              go_wp2_with fail
              go_meet
              exact B3.out
            · rw [lim_big c2] at h7
              have := (Prod.mk.inj h7).2
              omega
      case rest =>
        have B2'' := Lib.hid hcut
        clear hcut B2a F7 H7 K7
        go_wp2_with fail
        refine (q8.out _).mono ?_; rintro e w2 ⟨z8, rfl, f8, b2⟩
        have F8 := Lib.hid f8
        have B2 := Lib.hid (show Below w.heap.size w w2 from B2''.out.trans (b2.mono (by have := B2''.out.size; omega)))
        clear f8 b2
        obtain ⟨C8, hC8⟩ : ∃ C, C = (decide (e8 = 0) && !decide (b = 0)) := ⟨_, rfl⟩
        have K8 := Lib.hid hC8
        clear hC8
        go_upto_region 15 with fail
        go_cut [110] (fun s wx => s = .bool C8 ∧ Below w.heap.size w wx)
        case first =>
          have t2 := T2.out
          by_cases c1 : e8 = 0
          · by_cases c2 : b = 0
            · rw [decide_eq_true c2] at t2
              have hk := Lib.hid (show C8 = false by rw [K8.out, decide_eq_true c2]; simp)
              clear c2
              subst c1
              go_wp2_with fail
              go_meet
              exact ⟨by rw [hk.out], B2.out⟩
            · rw [decide_eq_false c2] at t2
              have hk := Lib.hid (show C8 = true by rw [K8.out, decide_eq_true c1, decide_eq_false c2]; rfl)
              have hn : Fl.isN z8 = false := by
                have h8 := H8.out
                have f8 := F8.out
                unfold Fl.divS at h8
                rw [if_neg c2] at h8
                split at h8
                · have := (Prod.mk.inj h8).2; omega
                · split at h8
                  · have := (Prod.mk.inj h8).2; omega
                  · obtain ⟨rfl, _⟩ := Prod.mk.inj h8
                    rw [f8.1]; exact Fl.isN_W f8.2
              have s := none_any z8
              rw [hn] at s
              have s' := Lib.hid (fun w' => s w' (Fl.Fits_lt F8.out))
              clear c2 s hn
              subst c1
              go_wp2_with fail
              refine (s'.out _).mono ?_; rintro e w' ⟨rfl, rfl⟩
              go_wp2_with fail
              go_meet
              exact ⟨by rw [hk.out], B2.out⟩
          · have hk := Lib.hid (show C8 = false by rw [K8.out, decide_eq_false c1]; rfl)
            have e : (e8 == 0) = false := by rw [beq_eq_false_iff_ne]; exact c1
            clear c1 t2
            go_wp2_with fail
            go_meet
            exact ⟨by rw [hk.out], B2.out⟩
        case rest =>
          obtain ⟨rfl, hcut⟩ := hcut
          have B2a := Lib.hid hcut
          clear hcut B2 B2''
          go_upto_if 110 with fail
          go_cut [] (fun wx => Below w.heap.size w wx)
          case first =>
            cases hc : C8 with
            | false =>
              clear hc
              go_wp2_with fail
              go_meet
              exact B2a.out
            | true =>
              have h8 := H8.out
              have hK := K8.out
              rw [hc] at hK
              have hK2 := hK.symm
              simp only [Bool.and_eq_true, decide_eq_true_eq, Bool.not_eq_true', decide_eq_false_iff_not] at hK2
              obtain ⟨k1, k2⟩ := hK2
              unfold Fl.divS at h8
              rw [if_neg k2] at h8
              by_cases c : a.tmod b ≠ 0
              · rw [if_pos c] at h8
                have := (Prod.mk.inj h8).2
                omega
              · rw [if_neg c] at h8
                by_cases c2 : a = 0 ∧ b < 0
                · rw [if_pos c2] at h8
                  have := (Prod.mk.inj h8).2
                  omega
                · rw [if_neg c2] at h8
                  obtain ⟨rfl, rfl⟩ := Prod.mk.inj h8
                  obtain ⟨rfl, hq⟩ := F8.out
                  have s := fun w' => Mul_any (Fl.W (a.tdiv b)) (Fl.W b) w' (Fl.W_lt hq) LB.out
                  rw [two_W hq HB.out, back_div a b HA.out (by omega) c2] at s
                  have s' := Lib.hid s
                  clear s h8 c c2 hc hK k1 k2 hq
                  go_wp2_with fail
                  refine (s'.out _).mono ?_; rintro e w3 ⟨z, rfl, ⟨rfl, _⟩, b3⟩
                  have B3 := Lib.hid (show Below w.heap.size w w3 from B2a.out.trans (b3.mono (by have := B2a.out.size; omega)))
                  clear b3
                  go_wp2_with fail
                  go_meet
                  exact B3.out
          case rest =>
            have B2'' := Lib.hid hcut
            clear hcut B2a F8 H8 K8
            go_wp2_with fail
            refine (q9.out _).mono ?_; rintro e w2 ⟨z9, rfl, f9, b2⟩
            have F9 := Lib.hid f9
            have B2 := Lib.hid (show Below w.heap.size w w2 from B2''.out.trans (b2.mono (by have := B2''.out.size; omega)))
            clear f9 b2
            have t5 := T5.out
            by_cases hb0 : b = 0
            · have h9 := H9.out
              rw [decide_eq_true hb0] at t5
              unfold Fl.remS at h9
              rw [if_pos hb0] at h9
              obtain ⟨rfl, rfl⟩ := Prod.mk.inj h9
              clear h9 hb0
              go_wp2_with fail
              go_ret
              exact ⟨rfl, B2.out⟩
            · rw [decide_eq_false hb0] at t5
              have h9 := H9.out
              unfold Fl.remS at h9
              rw [if_neg hb0] at h9
              by_cases c : a < 0 ∧ a.tmod b = 0
              · rw [if_pos c] at h9
                obtain ⟨rfl, rfl⟩ := Prod.mk.inj h9
                clear h9 hb0 c
                go_wp2_with fail
                go_ret
                exact ⟨rfl, B2.out⟩
              · rw [if_neg c] at h9
                obtain ⟨rfl, rfl⟩ := Prod.mk.inj h9
                obtain ⟨rfl, hr⟩ := F9.out
                obtain ⟨r1, r2, r3⟩ := back_rem a b HA.out hb0
                have s := fun w' => Sub_any (Fl.W a) (Fl.W (a.tmod b)) w' LA.out (Fl.W_lt hr)
                rw [two_W HA.out hr, r1] at s
                have s' := Lib.hid s
                have u1 := Fl.ord_eql (Fl.W_lt r2) (y := 0) (by omega)
                rw [feq_zero_W r2] at u1
                by_cases ht : a - a.tmod b = 0
                · rw [decide_eq_true ht] at u1
                  have u2 := Fl.ord_eql (Fl.W_lt hr) LA.out
                  rw [Fl.feq_W hr HA.out, decide_eq_true (by omega)] at u2
                  generalize a - a.tmod b = T at *
                  generalize a.tmod b = R at *
                  clear s h9 hb0 c ht r1 r2 r3 hr
                  go_wp2_with fail
                  refine (s'.out _).mono ?_; rintro e w3 ⟨z, rfl, ⟨rfl, _⟩, b3⟩
                  have B3 := Lib.hid (show Below w.heap.size w w3 from B2.out.trans (b3.mono (by have := B2.out.size; omega)))
                  clear b3
                  go_wp2_with fail
                  go_ret
                  exact ⟨rfl, B3.out⟩
                · rw [decide_eq_false ht] at u1
                  have hd : (a.tdiv b).natAbs < 9007199254740992 := by rw [Int.natAbs_tdiv]; exact Nat.lt_of_le_of_lt (Nat.div_le_self _ _) HA.out
                  have d := fun w' => Div_any (Fl.W (a - a.tmod b)) (Fl.W b) w' (Fl.W_lt r2) LB.out
                  rw [two_W r2 HB.out, r3 ht] at d
                  have d' := Lib.hid d
                  have n1 := none_any (Fl.W (a.tdiv b))
                  rw [Fl.isN_W hd] at n1
                  have n' := Lib.hid (fun w' => n1 w' (Fl.W_lt hd))
                  have z' := Lib.hid (fun w' => size_any b w' HB.out)
                  obtain ⟨g1, g2, g3⟩ := tmod_signs a b
                  have g3 := g3 hb0
                  have hbn : (b.natAbs : Int).natAbs < 9007199254740992 := by have := HB.out; omega
                  have u2 := Fl.ord_eql (Fl.W_lt hr) (y := 0) (by omega)
                  rw [feq_zero_W hr] at u2
                  have u3 := Fl.ord_gtr (Fl.W_lt hr) (y := 0) (by omega)
                  have u3' := Fl.flt_W (a := 0) (by decide) hr
                  rw [Fl.W_zero] at u3'
                  rw [u3'] at u3
                  have u4 := Fl.ord_gtr LA.out (y := 0) (by omega)
                  have u4' := Fl.flt_W (a := 0) (by decide) HA.out
                  rw [Fl.W_zero] at u4'
                  rw [u4'] at u4
                  have u5 := Fl.ord_lss (Fl.W_lt hr) (Fl.W_lt hbn)
                  rw [Fl.flt_W hr hbn, decide_eq_true (by omega)] at u5
                  have hnn : (-(b.natAbs : Int)).natAbs < 9007199254740992 := by omega
                  have u6 := Fl.ord_gtr (Fl.W_lt hr) (Fl.W_lt hnn)
                  rw [Fl.flt_W hnn hr, decide_eq_true (by omega)] at u6
                  have u7 := Fl.neg_W (n := (b.natAbs : Int)) (by omega) hbn
                  have hng : ∀ (x : Nat) (w : World), (Op.unary .neg (.float .f64 x)).run Try.prog w = .ok (.float .f64 (Op.negFloat .f64 x)) w := fun _ _ => rfl
                  obtain ⟨N, hN⟩ : ∃ N, N = Fl.W (b.natAbs : Int) := ⟨_, rfl⟩
                  obtain ⟨M, hM⟩ : ∃ M, M = Fl.W (-(b.natAbs : Int)) := ⟨_, rfl⟩
                  rw [← hN] at u5 u7 z'
                  rw [← hM] at u6 u7
                  have hTT : a - a.tmod b = a - a.tmod b := rfl
                  by_cases hr0 : a.tmod b = 0
                  · rw [decide_eq_true hr0] at u2
                    generalize a - a.tmod b = T at *
                    generalize a.tdiv b = Q at *
                    generalize a.tmod b = R at *
                    clear s d n1 h9 hb0 c ht r1 r2 r3 hr hd g1 g2 g3 hbn hnn hN hM u3 u3' u4 u4' hr0 hTT
                    go_wp2_with fail
                    refine (s'.out _).mono ?_; rintro e w3 ⟨z, rfl, ⟨rfl, _⟩, b3⟩
                    have B3 := Lib.hid (show Below w.heap.size w w3 from B2.out.trans (b3.mono (by have := B2.out.size; omega)))
                    clear b3
                    go_wp2_with fail
                    refine (d'.out _).mono ?_; rintro e w4 ⟨z, rfl, ⟨rfl, _⟩, b4⟩
                    have B4 := Lib.hid (show Below w.heap.size w w4 from B3.out.trans (b4.mono (by have := B3.out.size; omega)))
                    clear b4
                    go_wp2_with (first | (go_at_call 38; refine (n'.out _).mono ?_; rintro e w' ⟨rfl, rfl⟩) | (go_at_call 44; refine (z'.out _).mono ?_; rintro e w' ⟨rfl, rfl⟩))
                    go_ret
                    exact ⟨rfl, B4.out⟩
                  · rw [decide_eq_false hr0] at u2
                    have hsame : decide (0 < a.tmod b) = decide (0 < a) := by rw [decide_eq_decide]; omega
                    rw [hsame] at u3
                    generalize decide (0 < a) = P at *
                    generalize a - a.tmod b = T at *
                    generalize a.tdiv b = Q at *
                    generalize a.tmod b = R at *
                    have hPP : (P == P) = true := by simp
                    clear s d n1 h9 hb0 c ht r1 r2 r3 hr hd g1 g2 g3 hbn hnn hN hM u3' u4' hr0 hTT hsame
                    go_wp2_with fail
                    refine (s'.out _).mono ?_; rintro e w3 ⟨z, rfl, ⟨rfl, _⟩, b3⟩
                    have B3 := Lib.hid (show Below w.heap.size w w3 from B2.out.trans (b3.mono (by have := B2.out.size; omega)))
                    clear b3
                    go_wp2_with fail
                    refine (d'.out _).mono ?_; rintro e w4 ⟨z, rfl, ⟨rfl, _⟩, b4⟩
                    have B4 := Lib.hid (show Below w.heap.size w w4 from B3.out.trans (b4.mono (by have := B3.out.size; omega)))
                    clear b4
                    go_wp2_with (first | (go_at_call 38; refine (n'.out _).mono ?_; rintro e w' ⟨rfl, rfl⟩) | (go_at_call 44; refine (z'.out _).mono ?_; rintro e w' ⟨rfl, rfl⟩))
                    go_ret
                    exact ⟨rfl, B4.out⟩
end Go.Proofs.Ytajmdpndbfmdmaa
