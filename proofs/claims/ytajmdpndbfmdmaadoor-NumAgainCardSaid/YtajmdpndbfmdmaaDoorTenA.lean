/-
  bailiffref01.Tens returns the decimal numeral. Conditions: whole numbers of 64 bits above the least.
-/
import Derived.Test.YtajmdpndbfmdmaaDoorStrA
import Derived.Lib.ItoaMem
import Derived.Lib.ItoaLen
import Derived.Laws.Runes
namespace Go.Proofs.YtajmdpndbfmdmaaDoor
open Go Go.RowKit

theorem enc_dig : ∀ d : Nat, d < 10 → Utf8.encode (48 + (d : Int)) = ⟨#[UInt8.ofNat (48 + d)]⟩ := by decide +kernel

theorem tens_pos (n : Nat) (w : World) (hn : n < 9223372036854775808) :
    Calls Tryd.prog 101 #[.int .i64 n] w fun e w' => e = .returned (.string (strOf (Lib.decDigits n))) ∧ w = w' := by
  obtain ⟨L, hL⟩ : ∃ L, L = Lib.decDigits n := ⟨_, rfl⟩
  rw [← hL]
  have hlen : L.length ≤ 20 := by rw [hL, Lib.decDigits_length]; exact Lib.nDigits_le20 n (by omega)
  have hL' := Lib.hid hL
  clear hL
  go_enter Tryd.func101, Tryd.ntmps101
  go_wp2_with fail
  go_loop [0, 3] (fun x o => ∃ (m : Nat) (X : ByteArray), m < 9223372036854775808 ∧ x = .int .i64 m ∧ o = .string X ∧ X.size ≤ 20 ∧ Hid (Lib.decDigits m ++ X.data.toList = L)) (fun x _ => (intOf x).toNat)
  case atStart => exact ⟨n, ByteArray.empty, hn, rfl, rfl, by decide, by rw [hL'.out]; exact Lib.hid (List.append_nil _)⟩
  case round =>
    obtain ⟨m, X, hm, rfl, rfl, hX, H⟩ := hrel
    by_cases c : (10 : Int) ≤ m
    · have he := enc_dig (m % 10) (Nat.mod_lt _ (by decide))
      rw [Int.natCast_emod] at he
      have he' : Utf8.encode (48 + (m : Int) % 10) = ⟨#[UInt8.ofNat (48 + m % 10)]⟩ := he
      have hsz : (⟨#[UInt8.ofNat (48 + m % 10)]⟩ : ByteArray).size = 1 := rfl
      clear he
      have H2 : Lib.decDigits (m / 10) ++ ((⟨#[UInt8.ofNat (48 + m % 10)]⟩ : ByteArray) ++ X).data.toList = L := by
        rw [← H.out, append_list, Lib.decDigits.eq_1 m, dif_neg (by omega), List.append_assoc]
      have hs2 : ((⟨#[UInt8.ofNat (48 + m % 10)]⟩ : ByteArray) ++ X).size ≤ 20 := by
        have := congrArg List.length H2
        rw [List.length_append, size_list] at this
        omega
      have H2' := Lib.hid (And.intro H2 hs2)
      clear H2 hs2
      obtain ⟨Y, hY⟩ : ∃ Y : ByteArray, Y = ⟨#[UInt8.ofNat (48 + m % 10)]⟩ := ⟨_, rfl⟩
      rw [← hY] at he' H2' hsz
      clear hY
      go_wp2_with fail
      refine ⟨⟨m / 10, _, by omega, by simp, rfl, H2'.out.2, H2'.out.1⟩, by simp [intOf]; omega⟩
    · have he := enc_dig m (by omega)
      obtain ⟨Y, hY⟩ : ∃ Y : ByteArray, Y = ⟨#[UInt8.ofNat (48 + m)]⟩ := ⟨_, rfl⟩
      have hsz : (⟨#[UInt8.ofNat (48 + m)]⟩ : ByteArray).size = 1 := rfl
      have H2 : ((⟨#[UInt8.ofNat (48 + m)]⟩ : ByteArray) ++ X).data.toList = L := by
        rw [← H.out, append_list, Lib.decDigits.eq_1 m, dif_pos (by omega)]
      rw [← hY] at he H2 hsz
      have H2' := Lib.hid (strOf_inj H2)
      clear H2 hY
      go_wp2_with fail
      go_ret
      exact ⟨by rw [← H2'.out]; rfl, rfl⟩
end Go.Proofs.YtajmdpndbfmdmaaDoor
