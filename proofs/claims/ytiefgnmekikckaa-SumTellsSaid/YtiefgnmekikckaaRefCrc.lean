/-
  The walk of the reference's Crc.
-/
import Derived.Test.YtiefgnmekikckaaCrc
set_option linter.unusedVariables false
set_option linter.unusedSimpArgs false
namespace Go.Proofs.Ytiefgnmekikckaa
open Go.RowKit

section
attribute [local go_sem] un8_mod32 xor32 and1 xorPoly xorOnes notOnes shr1_int
set_option maxHeartbeats 1000000 in
theorem refCrc_any (A : Option Addr) (n c : Nat) (l : List UInt8) (w : World) (hl : l.length = n) (hn : n ≤ 9223372036854775807) (hr : RB w A l) :
    Calls Try.prog 40 #[.slice A n c] w fun e w' => e = .returned (.int .u32 (un32 (crcOf l))) ∧ w = w' := by
  subst hl
  have HR := Lib.hid hr
  clear hr
  go_enter Try.func40, Try.ntmps40
  go_wp2
  go_loopg [3, 4] l.length (fun k s3 s4 wr => ∃ i : Nat, i ≤ l.length ∧ k = l.length - i ∧ s4 = .int .i64 (i : Int) ∧ s3 = .int .u32 (un32 (crcFold (l.take i) 0xffffffff)) ∧ w = wr)
  case atStart => exact ⟨0, Nat.zero_le _, by omega, rfl, rfl, rfl⟩
  case round =>
    obtain ⟨i, hi, hk, rfl, rfl, rfl⟩ := hrel
    have HK := Lib.hid hk
    clear hk
    by_cases hlt : i < l.length
    · obtain ⟨ad, rfl, hc⟩ := HR.out.at_ i hlt
      have HS := Lib.hid (crcFold_snoc l i hlt 0xffffffff)
      rw [crcByte_bits] at HS
      go_wp2
      generalize crcFold (List.take i l) 4294967295 ^^^ l[i].toUInt32 = c0 at HS ⊢
      go_loopg [3, 5] 8 (fun k s3 s17 wr => ∃ j : Nat, j ≤ 8 ∧ k = 8 - j ∧ s17 = .int .i64 (j : Int) ∧ s3 = .int .u32 (un32 (crcBits j c0)) ∧ w = wr)
      case atStart => exact ⟨0, by omega, by omega, rfl, rfl, rfl⟩
      case round =>
        obtain ⟨j, hj, hk2, rfl, rfl, rfl⟩ := hrel
        have HK2 := Lib.hid hk2
        clear hk2
        by_cases hlt2 : j < 8
        · by_cases hb : crcBits j c0 &&& 1 = 1
          · have h1 := low_eq _ hb
            have HB := Lib.hid (crcBit_set _ hb)
            clear hb
            go_wp2
            go_roundg (8 - (j + 1))
            case measure => have := HK2.out; omega
            case rel => exact ⟨j + 1, by omega, rfl, by go_num, by rw [HB.out]; rfl, rfl⟩
          · have h1 := low_ne _ hb
            have HB := Lib.hid (crcBit_clear _ hb)
            clear hb
            go_wp2
            go_roundg (8 - (j + 1))
            case measure => have := HK2.out; omega
            case rel => exact ⟨j + 1, by omega, rfl, by go_num, by rw [HB.out]; rfl, rfl⟩
        · obtain rfl : j = 8 := by omega
          go_wp2
          go_roundg (l.length - (i + 1))
          case measure => have := HK.out; omega
          case rel => exact ⟨i + 1, by omega, rfl, by go_num, by rw [HS.out], rfl⟩
    · obtain rfl : i = l.length := by omega
      rw [List.take_length]
      go_wp2
      go_ret
      exact ⟨rfl, rfl⟩
end
end Go.Proofs.Ytiefgnmekikckaa
