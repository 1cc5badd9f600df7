/-
  lex.kind, run, closed, among, Word and Sign return what the plain theory says. Conditions: texts of at most 70,000 bytes; the cell of internal/bytealg.MaxLen holds a whole number.
-/
import Derived.Test.YtajmdpndbfmdmaaDoorLexA
import Derived.Test.YtajmdpndbfmdmaaDoorPl
import Derived.Lib.IndexAny
namespace Go.Proofs.YtajmdpndbfmdmaaDoor
open Go Go.RowKit

def kindI (c : UInt8) : Int := if Lx.isL c then 1 else if dig c then 2 else if Lx.isQ c then 3 else 0

theorem kind_any (c : UInt8) (w : World) :
    Calls Tryd.prog 130 #[.int .u8 c.toNat] w fun e w' => e = .returned (.int .i64 (kindI c)) ∧ w = w' := by
  have hlt := c.toNat_lt
  have hc : (0 ≤ c.toNat ∧ c.toNat ≤ 33) ∨ (34 ≤ c.toNat ∧ c.toNat ≤ 34) ∨ (35 ≤ c.toNat ∧ c.toNat ≤ 35) ∨ (36 ≤ c.toNat ∧ c.toNat ≤ 36) ∨ (37 ≤ c.toNat ∧ c.toNat ≤ 38) ∨ (39 ≤ c.toNat ∧ c.toNat ≤ 39) ∨ (40 ≤ c.toNat ∧ c.toNat ≤ 47) ∨ (48 ≤ c.toNat ∧ c.toNat ≤ 57) ∨ (58 ≤ c.toNat ∧ c.toNat ≤ 64) ∨ (65 ≤ c.toNat ∧ c.toNat ≤ 90) ∨ (91 ≤ c.toNat ∧ c.toNat ≤ 94) ∨ (95 ≤ c.toNat ∧ c.toNat ≤ 95) ∨ (96 ≤ c.toNat ∧ c.toNat ≤ 96) ∨ (97 ≤ c.toNat ∧ c.toNat ≤ 122) ∨ (123 ≤ c.toNat ∧ c.toNat ≤ 255) := by omega
  rcases hc with h | h | h | h | h | h | h | h | h | h | h | h | h | h | h
  · have hk : kindI c = 0 := by
      have h1 : Lx.isL c = false := by unfold Lx.isL; simp; omega
      have h2 : dig c = false := by unfold dig; simp; omega
      have h3 : Lx.isQ c = false := by unfold Lx.isQ; simp; omega
      unfold kindI; rw [h1, h2, h3]; rfl
    rw [hk]
    clear hk
    have g97 : ¬ 97 ≤ (c.toNat : Int) := by omega
    have g65 : ¬ 65 ≤ (c.toNat : Int) := by omega
    have g48 : ¬ 48 ≤ (c.toNat : Int) := by omega
    have l122 : (c.toNat : Int) ≤ 122 := by omega
    have l90 : (c.toNat : Int) ≤ 90 := by omega
    have l57 : (c.toNat : Int) ≤ 57 := by omega
    have q95 : ((c.toNat : Int) == 95) = false := by simp; omega
    have q36 : ((c.toNat : Int) == 36) = false := by simp; omega
    have q34 : ((c.toNat : Int) == 34) = false := by simp; omega
    have q39 : ((c.toNat : Int) == 39) = false := by simp; omega
    clear h
    go_enter Tryd.func130, Tryd.ntmps130
    go_wp2
    go_ret
    exact ⟨rfl, rfl⟩
  · have hk : kindI c = 3 := by
      have h1 : Lx.isL c = false := by unfold Lx.isL; simp; omega
      have h2 : dig c = false := by unfold dig; simp; omega
      have h3 : Lx.isQ c = true := by unfold Lx.isQ; simp; omega
      unfold kindI; rw [h1, h2, h3]; rfl
    rw [hk]
    clear hk
    have g97 : ¬ 97 ≤ (c.toNat : Int) := by omega
    have g65 : ¬ 65 ≤ (c.toNat : Int) := by omega
    have g48 : ¬ 48 ≤ (c.toNat : Int) := by omega
    have l122 : (c.toNat : Int) ≤ 122 := by omega
    have l90 : (c.toNat : Int) ≤ 90 := by omega
    have l57 : (c.toNat : Int) ≤ 57 := by omega
    have q95 : ((c.toNat : Int) == 95) = false := by simp; omega
    have q36 : ((c.toNat : Int) == 36) = false := by simp; omega
    have q34 : ((c.toNat : Int) == 34) = true := by simp; omega
    have q39 : ((c.toNat : Int) == 39) = false := by simp; omega
    clear h
    go_enter Tryd.func130, Tryd.ntmps130
    go_wp2
    go_ret
    exact ⟨rfl, rfl⟩
  · have hk : kindI c = 0 := by
      have h1 : Lx.isL c = false := by unfold Lx.isL; simp; omega
      have h2 : dig c = false := by unfold dig; simp; omega
      have h3 : Lx.isQ c = false := by unfold Lx.isQ; simp; omega
      unfold kindI; rw [h1, h2, h3]; rfl
    rw [hk]
    clear hk
    have g97 : ¬ 97 ≤ (c.toNat : Int) := by omega
    have g65 : ¬ 65 ≤ (c.toNat : Int) := by omega
    have g48 : ¬ 48 ≤ (c.toNat : Int) := by omega
    have l122 : (c.toNat : Int) ≤ 122 := by omega
    have l90 : (c.toNat : Int) ≤ 90 := by omega
    have l57 : (c.toNat : Int) ≤ 57 := by omega
    have q95 : ((c.toNat : Int) == 95) = false := by simp; omega
    have q36 : ((c.toNat : Int) == 36) = false := by simp; omega
    have q34 : ((c.toNat : Int) == 34) = false := by simp; omega
    have q39 : ((c.toNat : Int) == 39) = false := by simp; omega
    clear h
    go_enter Tryd.func130, Tryd.ntmps130
    go_wp2
    go_ret
    exact ⟨rfl, rfl⟩
  · have hk : kindI c = 1 := by
      have h1 : Lx.isL c = true := by unfold Lx.isL; simp; omega
      unfold kindI; rw [h1]; rfl
    rw [hk]
    clear hk
    have g97 : ¬ 97 ≤ (c.toNat : Int) := by omega
    have g65 : ¬ 65 ≤ (c.toNat : Int) := by omega
    have g48 : ¬ 48 ≤ (c.toNat : Int) := by omega
    have l122 : (c.toNat : Int) ≤ 122 := by omega
    have l90 : (c.toNat : Int) ≤ 90 := by omega
    have l57 : (c.toNat : Int) ≤ 57 := by omega
    have q95 : ((c.toNat : Int) == 95) = false := by simp; omega
    have q36 : ((c.toNat : Int) == 36) = true := by simp; omega
    have q34 : ((c.toNat : Int) == 34) = false := by simp; omega
    have q39 : ((c.toNat : Int) == 39) = false := by simp; omega
    clear h
    go_enter Tryd.func130, Tryd.ntmps130
    go_wp2
    go_ret
    exact ⟨rfl, rfl⟩
  · have hk : kindI c = 0 := by
      have h1 : Lx.isL c = false := by unfold Lx.isL; simp; omega
      have h2 : dig c = false := by unfold dig; simp; omega
      have h3 : Lx.isQ c = false := by unfold Lx.isQ; simp; omega
      unfold kindI; rw [h1, h2, h3]; rfl
    rw [hk]
    clear hk
    have g97 : ¬ 97 ≤ (c.toNat : Int) := by omega
    have g65 : ¬ 65 ≤ (c.toNat : Int) := by omega
    have g48 : ¬ 48 ≤ (c.toNat : Int) := by omega
    have l122 : (c.toNat : Int) ≤ 122 := by omega
    have l90 : (c.toNat : Int) ≤ 90 := by omega
    have l57 : (c.toNat : Int) ≤ 57 := by omega
    have q95 : ((c.toNat : Int) == 95) = false := by simp; omega
    have q36 : ((c.toNat : Int) == 36) = false := by simp; omega
    have q34 : ((c.toNat : Int) == 34) = false := by simp; omega
    have q39 : ((c.toNat : Int) == 39) = false := by simp; omega
    clear h
    go_enter Tryd.func130, Tryd.ntmps130
    go_wp2
    go_ret
    exact ⟨rfl, rfl⟩
  · have hk : kindI c = 3 := by
      have h1 : Lx.isL c = false := by unfold Lx.isL; simp; omega
      have h2 : dig c = false := by unfold dig; simp; omega
      have h3 : Lx.isQ c = true := by unfold Lx.isQ; simp; omega
      unfold kindI; rw [h1, h2, h3]; rfl
    rw [hk]
    clear hk
    have g97 : ¬ 97 ≤ (c.toNat : Int) := by omega
    have g65 : ¬ 65 ≤ (c.toNat : Int) := by omega
    have g48 : ¬ 48 ≤ (c.toNat : Int) := by omega
    have l122 : (c.toNat : Int) ≤ 122 := by omega
    have l90 : (c.toNat : Int) ≤ 90 := by omega
    have l57 : (c.toNat : Int) ≤ 57 := by omega
    have q95 : ((c.toNat : Int) == 95) = false := by simp; omega
    have q36 : ((c.toNat : Int) == 36) = false := by simp; omega
    have q34 : ((c.toNat : Int) == 34) = false := by simp; omega
    have q39 : ((c.toNat : Int) == 39) = true := by simp; omega
    clear h
    go_enter Tryd.func130, Tryd.ntmps130
    go_wp2
    go_ret
    exact ⟨rfl, rfl⟩
  · have hk : kindI c = 0 := by
      have h1 : Lx.isL c = false := by unfold Lx.isL; simp; omega
      have h2 : dig c = false := by unfold dig; simp; omega
      have h3 : Lx.isQ c = false := by unfold Lx.isQ; simp; omega
      unfold kindI; rw [h1, h2, h3]; rfl
    rw [hk]
    clear hk
    have g97 : ¬ 97 ≤ (c.toNat : Int) := by omega
    have g65 : ¬ 65 ≤ (c.toNat : Int) := by omega
    have g48 : ¬ 48 ≤ (c.toNat : Int) := by omega
    have l122 : (c.toNat : Int) ≤ 122 := by omega
    have l90 : (c.toNat : Int) ≤ 90 := by omega
    have l57 : (c.toNat : Int) ≤ 57 := by omega
    have q95 : ((c.toNat : Int) == 95) = false := by simp; omega
    have q36 : ((c.toNat : Int) == 36) = false := by simp; omega
    have q34 : ((c.toNat : Int) == 34) = false := by simp; omega
    have q39 : ((c.toNat : Int) == 39) = false := by simp; omega
    clear h
    go_enter Tryd.func130, Tryd.ntmps130
    go_wp2
    go_ret
    exact ⟨rfl, rfl⟩
  · have hk : kindI c = 2 := by
      have h1 : Lx.isL c = false := by unfold Lx.isL; simp; omega
      have h2 : dig c = true := by unfold dig; simp; omega
      unfold kindI; rw [h1, h2]; rfl
    rw [hk]
    clear hk
    have g97 : ¬ 97 ≤ (c.toNat : Int) := by omega
    have g65 : ¬ 65 ≤ (c.toNat : Int) := by omega
    have g48 : 48 ≤ (c.toNat : Int) := by omega
    have l122 : (c.toNat : Int) ≤ 122 := by omega
    have l90 : (c.toNat : Int) ≤ 90 := by omega
    have l57 : (c.toNat : Int) ≤ 57 := by omega
    have q95 : ((c.toNat : Int) == 95) = false := by simp; omega
    have q36 : ((c.toNat : Int) == 36) = false := by simp; omega
    have q34 : ((c.toNat : Int) == 34) = false := by simp; omega
    have q39 : ((c.toNat : Int) == 39) = false := by simp; omega
    clear h
    go_enter Tryd.func130, Tryd.ntmps130
    go_wp2
    go_ret
    exact ⟨rfl, rfl⟩
  · have hk : kindI c = 0 := by
      have h1 : Lx.isL c = false := by unfold Lx.isL; simp; omega
      have h2 : dig c = false := by unfold dig; simp; omega
      have h3 : Lx.isQ c = false := by unfold Lx.isQ; simp; omega
      unfold kindI; rw [h1, h2, h3]; rfl
    rw [hk]
    clear hk
    have g97 : ¬ 97 ≤ (c.toNat : Int) := by omega
    have g65 : ¬ 65 ≤ (c.toNat : Int) := by omega
    have g48 : 48 ≤ (c.toNat : Int) := by omega
    have l122 : (c.toNat : Int) ≤ 122 := by omega
    have l90 : (c.toNat : Int) ≤ 90 := by omega
    have l57 : ¬ (c.toNat : Int) ≤ 57 := by omega
    have q95 : ((c.toNat : Int) == 95) = false := by simp; omega
    have q36 : ((c.toNat : Int) == 36) = false := by simp; omega
    have q34 : ((c.toNat : Int) == 34) = false := by simp; omega
    have q39 : ((c.toNat : Int) == 39) = false := by simp; omega
    clear h
    go_enter Tryd.func130, Tryd.ntmps130
    go_wp2
    go_ret
    exact ⟨rfl, rfl⟩
  · have hk : kindI c = 1 := by
      have h1 : Lx.isL c = true := by unfold Lx.isL; simp; omega
      unfold kindI; rw [h1]; rfl
    rw [hk]
    clear hk
    have g97 : ¬ 97 ≤ (c.toNat : Int) := by omega
    have g65 : 65 ≤ (c.toNat : Int) := by omega
    have g48 : 48 ≤ (c.toNat : Int) := by omega
    have l122 : (c.toNat : Int) ≤ 122 := by omega
    have l90 : (c.toNat : Int) ≤ 90 := by omega
    have l57 : ¬ (c.toNat : Int) ≤ 57 := by omega
    have q95 : ((c.toNat : Int) == 95) = false := by simp; omega
    have q36 : ((c.toNat : Int) == 36) = false := by simp; omega
    have q34 : ((c.toNat : Int) == 34) = false := by simp; omega
    have q39 : ((c.toNat : Int) == 39) = false := by simp; omega
    clear h
    go_enter Tryd.func130, Tryd.ntmps130
    go_wp2
    go_ret
    exact ⟨rfl, rfl⟩
  · have hk : kindI c = 0 := by
      have h1 : Lx.isL c = false := by unfold Lx.isL; simp; omega
      have h2 : dig c = false := by unfold dig; simp; omega
      have h3 : Lx.isQ c = false := by unfold Lx.isQ; simp; omega
      unfold kindI; rw [h1, h2, h3]; rfl
    rw [hk]
    clear hk
    have g97 : ¬ 97 ≤ (c.toNat : Int) := by omega
    have g65 : 65 ≤ (c.toNat : Int) := by omega
    have g48 : 48 ≤ (c.toNat : Int) := by omega
    have l122 : (c.toNat : Int) ≤ 122 := by omega
    have l90 : ¬ (c.toNat : Int) ≤ 90 := by omega
    have l57 : ¬ (c.toNat : Int) ≤ 57 := by omega
    have q95 : ((c.toNat : Int) == 95) = false := by simp; omega
    have q36 : ((c.toNat : Int) == 36) = false := by simp; omega
    have q34 : ((c.toNat : Int) == 34) = false := by simp; omega
    have q39 : ((c.toNat : Int) == 39) = false := by simp; omega
    clear h
    go_enter Tryd.func130, Tryd.ntmps130
    go_wp2
    go_ret
    exact ⟨rfl, rfl⟩
  · have hk : kindI c = 1 := by
      have h1 : Lx.isL c = true := by unfold Lx.isL; simp; omega
      unfold kindI; rw [h1]; rfl
    rw [hk]
    clear hk
    have g97 : ¬ 97 ≤ (c.toNat : Int) := by omega
    have g65 : 65 ≤ (c.toNat : Int) := by omega
    have g48 : 48 ≤ (c.toNat : Int) := by omega
    have l122 : (c.toNat : Int) ≤ 122 := by omega
    have l90 : ¬ (c.toNat : Int) ≤ 90 := by omega
    have l57 : ¬ (c.toNat : Int) ≤ 57 := by omega
    have q95 : ((c.toNat : Int) == 95) = true := by simp; omega
    have q36 : ((c.toNat : Int) == 36) = false := by simp; omega
    have q34 : ((c.toNat : Int) == 34) = false := by simp; omega
    have q39 : ((c.toNat : Int) == 39) = false := by simp; omega
    clear h
    go_enter Tryd.func130, Tryd.ntmps130
    go_wp2
    go_ret
    exact ⟨rfl, rfl⟩
  · have hk : kindI c = 0 := by
      have h1 : Lx.isL c = false := by unfold Lx.isL; simp; omega
      have h2 : dig c = false := by unfold dig; simp; omega
      have h3 : Lx.isQ c = false := by unfold Lx.isQ; simp; omega
      unfold kindI; rw [h1, h2, h3]; rfl
    rw [hk]
    clear hk
    have g97 : ¬ 97 ≤ (c.toNat : Int) := by omega
    have g65 : 65 ≤ (c.toNat : Int) := by omega
    have g48 : 48 ≤ (c.toNat : Int) := by omega
    have l122 : (c.toNat : Int) ≤ 122 := by omega
    have l90 : ¬ (c.toNat : Int) ≤ 90 := by omega
    have l57 : ¬ (c.toNat : Int) ≤ 57 := by omega
    have q95 : ((c.toNat : Int) == 95) = false := by simp; omega
    have q36 : ((c.toNat : Int) == 36) = false := by simp; omega
    have q34 : ((c.toNat : Int) == 34) = false := by simp; omega
    have q39 : ((c.toNat : Int) == 39) = false := by simp; omega
    clear h
    go_enter Tryd.func130, Tryd.ntmps130
    go_wp2
    go_ret
    exact ⟨rfl, rfl⟩
  · have hk : kindI c = 1 := by
      have h1 : Lx.isL c = true := by unfold Lx.isL; simp; omega
      unfold kindI; rw [h1]; rfl
    rw [hk]
    clear hk
    have g97 : 97 ≤ (c.toNat : Int) := by omega
    have g65 : 65 ≤ (c.toNat : Int) := by omega
    have g48 : 48 ≤ (c.toNat : Int) := by omega
    have l122 : (c.toNat : Int) ≤ 122 := by omega
    have l90 : ¬ (c.toNat : Int) ≤ 90 := by omega
    have l57 : ¬ (c.toNat : Int) ≤ 57 := by omega
    have q95 : ((c.toNat : Int) == 95) = false := by simp; omega
    have q36 : ((c.toNat : Int) == 36) = false := by simp; omega
    have q34 : ((c.toNat : Int) == 34) = false := by simp; omega
    have q39 : ((c.toNat : Int) == 39) = false := by simp; omega
    clear h
    go_enter Tryd.func130, Tryd.ntmps130
    go_wp2
    go_ret
    exact ⟨rfl, rfl⟩
  · have hk : kindI c = 0 := by
      have h1 : Lx.isL c = false := by unfold Lx.isL; simp; omega
      have h2 : dig c = false := by unfold dig; simp; omega
      have h3 : Lx.isQ c = false := by unfold Lx.isQ; simp; omega
      unfold kindI; rw [h1, h2, h3]; rfl
    rw [hk]
    clear hk
    have g97 : 97 ≤ (c.toNat : Int) := by omega
    have g65 : 65 ≤ (c.toNat : Int) := by omega
    have g48 : 48 ≤ (c.toNat : Int) := by omega
    have l122 : ¬ (c.toNat : Int) ≤ 122 := by omega
    have l90 : ¬ (c.toNat : Int) ≤ 90 := by omega
    have l57 : ¬ (c.toNat : Int) ≤ 57 := by omega
    have q95 : ((c.toNat : Int) == 95) = false := by simp; omega
    have q36 : ((c.toNat : Int) == 36) = false := by simp; omega
    have q34 : ((c.toNat : Int) == 34) = false := by simp; omega
    have q39 : ((c.toNat : Int) == 39) = false := by simp; omega
    clear h
    go_enter Tryd.func130, Tryd.ntmps130
    go_wp2
    go_ret
    exact ⟨rfl, rfl⟩

theorem run_stop {s : ByteArray} {k : Nat} (h : (s.data.toList.take k).all Lx.nm = true) (hk : k ≤ s.size) (hs : k = s.size ∨ ∃ h : k < s.size, Lx.nm (s[k]'h) = false) : Lx.runL s.data.toList = k := by
  unfold Lx.runL
  have hl : (s.data.toList.take k).length = k := by rw [List.length_take, size_list]; omega
  conv => lhs; rw [← List.take_append_drop k s.data.toList]
  rw [List.takeWhile_append_of_pos (fun a ha => List.all_eq_true.1 h a ha)]
  have hd : (s.data.toList.drop k).takeWhile Lx.nm = [] := by
    rcases hs with e | ⟨hk2, e⟩
    · rw [List.drop_of_length_le (by rw [size_list]; omega)]; rfl
    · rw [drop_cons s k hk2, List.takeWhile_cons, e]; rfl
  rw [hd, List.append_nil, hl]

set_option maxHeartbeats 1000000 in
theorem run_any (s : ByteArray) (w : World) (hs : s.size ≤ 70000) :
    Calls Tryd.prog 131 #[.string s] w fun e w' => e = .returned (.int .i64 (Lx.runL s.data.toList : Nat)) ∧ w = w' := by
  obtain ⟨R, hR⟩ : ∃ R, R = Lx.runL s.data.toList := ⟨_, rfl⟩
  rw [← hR]
  have hR' := Lib.hid hR
  clear hR
  go_enter Tryd.func131, Tryd.ntmps131
  go_wp2_with fail
  go_loop [3] (fun n => ∃ k : Nat, k ≤ s.size ∧ n = .int .i64 k ∧ Hid ((s.data.toList.take k).all Lx.nm = true)) (fun n => ((s.size : Int) - intOf n).toNat)
  case atStart => exact ⟨0, by omega, rfl, Lib.hid rfl⟩
  case round =>
    obtain ⟨k, hk, rfl, H⟩ := hrel
    by_cases c : (k : Int) < s.size
    · obtain ⟨u, hu⟩ : ∃ u, s[k]'(by omega) = u := ⟨_, rfl⟩
      have q := Lib.hid (fun w' => kind_any u w')
      have hst := Lib.hid (fun (e : Lx.nm u = false) => hR'.out.trans (run_stop H.out hk (.inr ⟨by omega, by rw [hu]; exact e⟩)))
      have hgo : Lx.nm u = true → Hid ((s.data.toList.take (k + 1)).all Lx.nm = true) := by
        intro e
        rw [take_snoc s k (by omega), hu, List.all_append, H.out]
        exact Lib.hid (by simp [e])
      by_cases c1 : Lx.isL u = true
      · have hk1 : kindI u = 1 := by unfold kindI; rw [c1]; rfl
        have g := hgo (by unfold Lx.nm; rw [c1]; rfl)
        rw [hk1] at q
        clear hgo c1 hk1 hst
        go_wp2_with fail
        refine (q.out _).mono ?_; rintro e w' ⟨rfl, rfl⟩
        go_wp2_with fail
        go_round
        case rel => exact ⟨k + 1, by omega, by go_num, g⟩
        case measure => simp [intOf]; omega
      · by_cases c2 : dig u = true
        · have hk1 : kindI u = 2 := by unfold kindI; rw [if_neg c1, if_pos c2]
          have g := hgo (by unfold Lx.nm; rw [c2]; simp)
          rw [hk1] at q
          clear hgo c1 hk1 hst c2
          go_wp2_with fail
          refine (q.out _).mono ?_; rintro e w' ⟨rfl, rfl⟩
          go_wp2_with fail
          refine (q.out _).mono ?_; rintro e w' ⟨rfl, rfl⟩
          go_wp2_with fail
          go_round
          case rel => exact ⟨k + 1, by omega, by go_num, g⟩
          case measure => simp [intOf]; omega
        · have hk1 : kindI u = 3 ∨ kindI u = 0 := by unfold kindI; rw [if_neg c1, if_neg c2]; split <;> simp
          have hr := Lib.hid (hst.out (by unfold Lx.nm; rw [Bool.eq_false_iff.2 c1, Bool.eq_false_iff.2 c2]; rfl))
          clear hgo c1 hst c2
          rcases hk1 with hk1 | hk1
          · rw [hk1] at q
            clear hk1
            go_wp2_with fail
            refine (q.out _).mono ?_; rintro e w' ⟨rfl, rfl⟩
            go_wp2_with fail
            refine (q.out _).mono ?_; rintro e w' ⟨rfl, rfl⟩
            go_wp2
            go_ret
            exact ⟨by rw [hr.out]; rfl, rfl⟩
          · rw [hk1] at q
            clear hk1
            go_wp2_with fail
            refine (q.out _).mono ?_; rintro e w' ⟨rfl, rfl⟩
            go_wp2_with fail
            refine (q.out _).mono ?_; rintro e w' ⟨rfl, rfl⟩
            go_wp2
            go_ret
            exact ⟨by rw [hr.out]; rfl, rfl⟩
    · have hr := Lib.hid (hR'.out.trans (run_stop H.out hk (.inl (by omega))))
      go_wp2
      go_ret
      exact ⟨by rw [hr.out]; rfl, rfl⟩

theorem clos_q (q : UInt8) (t : List UInt8) (i : Nat) : Lx.clos q (q :: t) i = i := by
  cases t with
  | nil => show (if q = q then i else 0) = i; rw [if_pos rfl]
  | cons d r => rw [Lx.clos, if_pos rfl]
theorem clos_e {q c : UInt8} (t : List UInt8) (i : Nat) (h : c ≠ q) (he : Lx.eol c = true) : Lx.clos q (c :: t) i = 0 := by
  cases t with
  | nil => show (if c = q then i else 0) = 0; rw [if_neg h]
  | cons d r => rw [Lx.clos, if_neg h, if_pos he]
theorem clos_n {q c : UInt8} (t : List UInt8) (i : Nat) (h : c ≠ q) (he : Lx.eol c = false) (h3 : c.toNat ≠ 92) : Lx.clos q (c :: t) i = Lx.clos q t (i + 1) := by
  cases t with
  | nil => show (if c = q then i else 0) = 0; rw [if_neg h]
  | cons d r => rw [Lx.clos, if_neg h, if_neg (by rw [he]; simp), if_neg h3]
theorem clos_b {q c : UInt8} (d : UInt8) (r : List UInt8) (i : Nat) (h : c ≠ q) (h3 : c.toNat = 92) (hd : Lx.eol d = false) : Lx.clos q (c :: d :: r) i = Lx.clos q r (i + 2) := by
  have he : Lx.eol c = false := by unfold Lx.eol; rw [h3]; rfl
  rw [Lx.clos, if_neg h, if_neg (by rw [he]; simp), if_pos h3, if_neg (by rw [hd]; simp)]
theorem clos_b0 {q c : UInt8} (i : Nat) (h : c ≠ q) : Lx.clos q [c] i = Lx.clos q [] (i + 1) := by
  show (if c = q then i else 0) = 0; rw [if_neg h]
theorem clos_b1 {q c : UInt8} (d : UInt8) (r : List UInt8) (i : Nat) (h : c ≠ q) (h3 : c.toNat = 92) (hd : Lx.eol d = true) (hq : d ≠ q) : Lx.clos q (c :: d :: r) i = Lx.clos q (d :: r) (i + 1) := by
  have he : Lx.eol c = false := by unfold Lx.eol; rw [h3]; rfl
  rw [Lx.clos, if_neg h, if_neg (by rw [he]; simp), if_pos h3, if_pos hd, clos_e r (i + 1) hq hd]
theorem eol_q {d q : UInt8} (hd : Lx.eol d = true) (hq : Lx.isQ q = true) : d ≠ q := by
  intro e; subst e
  unfold Lx.eol at hd; unfold Lx.isQ at hq
  simp at hd hq
  omega

set_option maxHeartbeats 2000000 in
theorem closed_any (s : ByteArray) (w : World) (hs : s.size ≤ 70000) (h0 : 0 < s.size) (hq : Lx.isQ (s[0]'h0) = true) :
    Calls Tryd.prog 142 #[.string s] w fun e w' => e = .returned (.int .i64 (Lx.clos (s[0]'h0) (s.data.toList.drop 1) 1 : Nat)) ∧ w = w' := by
  obtain ⟨R, hR⟩ : ∃ R, Lx.clos (s[0]'h0) (s.data.toList.drop 1) 1 = R := ⟨_, rfl⟩
  rw [hR]
  have hR' := Lib.hid hR
  obtain ⟨q, hq0⟩ : ∃ q, s[0]'h0 = q := ⟨_, rfl⟩
  rw [hq0] at hR' hq
  have hp : 0 < (s.size : Int) := by omega
  clear hR
  go_enter Tryd.func142, Tryd.ntmps142
  go_wp2_with fail
  go_loop [3] (fun n => ∃ k : Nat, 1 ≤ k ∧ k ≤ s.size ∧ n = .int .i64 k ∧ Hid (Lx.clos q (s.data.toList.drop k) k = R)) (fun n => ((s.size : Int) - intOf n).toNat)
  case atStart => exact ⟨1, by omega, by omega, rfl, hR'⟩
  case round =>
    obtain ⟨k, hk1, hk, rfl, H⟩ := hrel
    by_cases c : (k : Int) < s.size
    · obtain ⟨u, hu⟩ : ∃ u, s[k]'(by omega) = u := ⟨_, rfl⟩
      have hdc := drop_cons s k (by omega)
      rw [hu] at hdc
      have hH := H.out
      rw [hdc] at hH
      by_cases e1 : u = q
      · subst e1
        have hr := Lib.hid (hH.symm.trans (clos_q u _ k))
        have hqq : ((u.toNat : Int) == (u.toNat : Int)) = true := by simp
        clear hH hdc
        go_wp2
        go_ret
        exact ⟨by rw [hr.out]; rfl, rfl⟩
      · have hne : ((u.toNat : Int) == (q.toNat : Int)) = false := by
          rw [beq_eq_false_iff_ne]; intro e; exact e1 (UInt8.toNat_inj.1 (by omega))
        by_cases e2 : Lx.eol u = true
        · have hr := Lib.hid (hH.symm.trans (clos_e _ k e1 e2))
          have e3 : u.toNat = 10 ∨ u.toNat = 13 := by unfold Lx.eol at e2; simpa using e2
          clear hH hdc e2
          by_cases e4 : u.toNat = 10
          · have d1 : ((u.toNat : Int) == 10) = true := by simp; omega
            clear e3 e4
            go_wp2
            go_ret
            exact ⟨by rw [hr.out]; rfl, rfl⟩
          · have d1 : ((u.toNat : Int) == 10) = false := by simp; omega
            have d2 : ((u.toNat : Int) == 13) = true := by simp; omega
            clear e3 e4
            go_wp2
            go_ret
            exact ⟨by rw [hr.out]; rfl, rfl⟩
        · have e2' := Bool.eq_false_iff.2 e2
          have e3 : u.toNat ≠ 10 ∧ u.toNat ≠ 13 := by unfold Lx.eol at e2'; simpa using e2'
          have d1 : ((u.toNat : Int) == 10) = false := by simp; omega
          have d2 : ((u.toNat : Int) == 13) = false := by simp; omega
          by_cases e5 : u.toNat = 92
          · have d3 : ((u.toNat : Int) == 92) = true := by simp; omega
            by_cases c2 : (k : Int) + 1 < s.size
            · obtain ⟨v, hv⟩ : ∃ v, s[k + 1]'(by omega) = v := ⟨_, rfl⟩
              have hdc2 := drop_cons s (k + 1) (by omega)
              rw [hv] at hdc2
              rw [hdc2] at hH
              by_cases e6 : Lx.eol v = true
              · have H2 := Lib.hid ((clos_b1 v _ k e1 e5 e6 (eol_q e6 hq)).symm.trans hH)
                rw [← hdc2] at H2
                have e7 : v.toNat = 10 ∨ v.toNat = 13 := by unfold Lx.eol at e6; simpa using e6
                clear hH hdc hdc2 e6 e2 e2' e3 e5
                by_cases e8 : v.toNat = 10
                · have b1 : ((v.toNat : Int) != 10) = false := by simp; omega
                  clear e7 e8
                  go_wp2_with fail
                  go_round
                  case rel => exact ⟨k + 1, by omega, by omega, by go_num, H2⟩
                  case measure => simp [intOf]; omega
                · have b1 : ((v.toNat : Int) != 10) = true := by simp; omega
                  have b2 : ((v.toNat : Int) != 13) = false := by simp; omega
                  clear e7 e8
                  go_wp2_with fail
                  go_round
                  case rel => exact ⟨k + 1, by omega, by omega, by go_num, H2⟩
                  case measure => simp [intOf]; omega
              · have e6' := Bool.eq_false_iff.2 e6
                have e7 : v.toNat ≠ 10 ∧ v.toNat ≠ 13 := by unfold Lx.eol at e6'; simpa using e6'
                have b1 : ((v.toNat : Int) != 10) = true := by simp; omega
                have b2 : ((v.toNat : Int) != 13) = true := by simp; omega
                have H2 := Lib.hid ((clos_b v _ k e1 e5 e6').symm.trans hH)
                clear hH hdc hdc2 e6 e6' e7 e2 e2' e3 e5
                go_wp2_with fail
                go_round
                case rel => exact ⟨k + 2, by omega, by omega, by go_num, H2⟩
                case measure => simp [intOf]; omega
            · have hnil : s.data.toList.drop (k + 1) = [] := List.drop_of_length_le (by rw [size_list]; omega)
              rw [hnil] at hH
              have H2 := Lib.hid ((clos_b0 k e1).symm.trans hH)
              rw [← hnil] at H2
              clear hH hdc hnil e2 e2' e3 e5
              go_wp2_with fail
              go_round
              case rel => exact ⟨k + 1, by omega, by omega, by go_num, H2⟩
              case measure => simp [intOf]; omega
          · have d3 : ((u.toNat : Int) == 92) = false := by simp; omega
            have H2 := Lib.hid ((clos_n _ k e1 e2' e5).symm.trans hH)
            clear hH hdc e2 e2' e3 e5
            go_wp2_with fail
            go_round
            case rel => exact ⟨k + 1, by omega, by omega, by go_num, H2⟩
            case measure => simp [intOf]; omega
    · have hr := Lib.hid (show R = 0 from by
        have hH := H.out
        rw [List.drop_of_length_le (by rw [size_list]; omega)] at hH
        exact hH.symm)
      go_wp2
      go_ret
      exact ⟨by rw [hr.out]; rfl, rfl⟩

theorem among_any (row s : ByteArray) (m : Int) (w : World) (hr : row.size ≤ 1000) (hs : s.size ≤ 9223372036854775800) (hm : w.cell? ⟨1, 0, none⟩ = some (.int .i64 m)) :
    Calls Tryd.prog 110 #[.string row, .string s] w fun e w' => e = .returned (.bool (Lx.amongL row.data.toList s.data.toList)) ∧ w = w' := by
  by_cases c0 : s.size = 0
  · obtain rfl := empty_of c0
    have hres : Lx.amongL row.data.toList ByteArray.empty.data.toList = false := rfl
    rw [hres]
    clear hm hres c0
    go_enter Tryd.func110, Tryd.ntmps110
    go_wp2
    go_ret
    exact ⟨rfl, rfl⟩
  · have he := isEmpty_of c0
    have hn : s.toList ≠ [] := by intro e; rw [e] at he; cases he
    have hne : s.data.toList.isEmpty = false := by
      rw [Lib.toList_data] at he; exact he
    have q1 := Tryd.strings_Contains_one s 32 w
    rw [← Lib.contains_iff_indexByte] at q1
    by_cases c1 : s.data.toList.contains 32 = true
    · have hres : Lx.amongL row.data.toList s.data.toList = false := by
        unfold Lx.amongL; rw [Lx.contains_one, c1, hne]; rfl
      rw [hres]
      rw [c1] at q1
      have q1' := Lib.hid q1
      clear hm hres c0 c1 q1 hne
      go_enter Tryd.func110, Tryd.ntmps110
      go_wp2_with fail
      refine q1'.out.mono ?_; rintro e w' ⟨rfl, rfl⟩
      go_wp2
      go_ret
      exact ⟨rfl, rfl⟩
    · have c1' := Bool.eq_false_iff.2 c1
      have hres : Lx.amongL row.data.toList s.data.toList = Lib.contains row.data.toList (32 :: (s.data.toList ++ [32])) := by
        unfold Lx.amongL; rw [Lx.contains_one, c1', hne]; rfl
      rw [hres]
      rw [c1'] at q1
      have q1' := Lib.hid q1
      have q2 := Tryd.strings_Contains row ((⟨#[32]⟩ : ByteArray) ++ s ++ ⟨#[32]⟩) m w (by omega) hm
      have hcat : ((⟨#[32]⟩ : ByteArray) ++ s ++ ⟨#[32]⟩).data.toList = 32 :: (s.data.toList ++ [32]) := by
        rw [append_list, append_list]; rfl
      rw [hcat] at q2
      have q2' := Lib.hid q2
      generalize Lib.contains row.data.toList (32 :: (s.data.toList ++ [32])) = V at q2' ⊢
      have hz1 : (⟨#[32]⟩ : ByteArray).size = 1 := rfl
      have hz2 : ((⟨#[32]⟩ : ByteArray) ++ s).size = 1 + s.size := by simp [hz1]
      clear hm hres c0 c1 c1' q1 hne q2 hcat
      go_enter Tryd.func110, Tryd.ntmps110
      go_wp2_with fail
      refine q1'.out.mono ?_; rintro e w' ⟨rfl, rfl⟩
      go_wp2_with fail
      refine q2'.out.mono ?_; rintro e w' ⟨rfl, rfl⟩
      go_wp2
      go_ret
      exact ⟨rfl, rfl⟩

theorem lexWord_any (s : ByteArray) (m : Int) (w : World) (hs : s.size ≤ 9223372036854775800) (hm : w.cell? ⟨1, 0, none⟩ = some (.int .i64 m)) :
    Calls Tryd.prog 53 #[.string s] w fun e w' => e = .returned (.bool (Lx.wrd s.data.toList)) ∧ w = w' := by
  have q := among_any ⟨Lx.wordsRow.toArray⟩ s m w (by decide +kernel) hs hm
  have q' : Hid _ := Lib.hid q
  rw [show (⟨Lx.wordsRow.toArray⟩ : ByteArray).data.toList = Lx.wordsRow from rfl, Lx.among_words] at q'
  clear q hm
  generalize Lx.wrd s.data.toList = V at q' ⊢
  go_enter Tryd.func53, Tryd.ntmps53
  go_wp2_with fail
  refine q'.out.mono ?_; rintro e w' ⟨rfl, rfl⟩
  go_wp2
  go_ret
  exact ⟨rfl, rfl⟩
theorem lexSign_any (s : ByteArray) (m : Int) (w : World) (hs : s.size ≤ 9223372036854775800) (hm : w.cell? ⟨1, 0, none⟩ = some (.int .i64 m)) :
    Calls Tryd.prog 55 #[.string s] w fun e w' => e = .returned (.bool (Lx.sgn s.data.toList)) ∧ w = w' := by
  have q := among_any ⟨Lx.signsRow.toArray⟩ s m w (by decide +kernel) hs hm
  have q' : Hid _ := Lib.hid q
  rw [show (⟨Lx.signsRow.toArray⟩ : ByteArray).data.toList = Lx.signsRow from rfl, Lx.among_signs] at q'
  clear q hm
  generalize Lx.sgn s.data.toList = V at q' ⊢
  go_enter Tryd.func55, Tryd.ntmps55
  go_wp2_with fail
  refine q'.out.mono ?_; rintro e w' ⟨rfl, rfl⟩
  go_wp2
  go_ret
  exact ⟨rfl, rfl⟩
end Go.Proofs.YtajmdpndbfmdmaaDoor
