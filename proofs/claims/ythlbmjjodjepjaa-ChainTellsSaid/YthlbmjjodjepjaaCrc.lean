/-
  The walks of sum.Crc and of the reference's Crc.
-/
import Derived.Test.YthlbmjjodjepjaaSumPure
set_option linter.unusedVariables false
set_option linter.unusedSimpArgs false
namespace Go.Proofs.Ythlbmjjodjepjaa
open Go.RowKit

theorem shr1_int (c : UInt32) : un32 c / (2 : Int) = un32 (c >>> 1) := by unfold un32; rw [shr_one_nat]; omega
def crcBits : Nat → UInt32 → UInt32
  | 0, c => c
  | n + 1, c => crcBit (crcBits n c)
theorem crcByte_bits (c : UInt32) (x : UInt8) : crcByte c x = crcBits 8 (c ^^^ x.toUInt32) := rfl
theorem crcFold_snoc (l : List UInt8) (i : Nat) (h : i < l.length) (c : UInt32) : crcFold (l.take (i + 1)) c = crcByte (crcFold (l.take i) c) l[i] := by
  rw [List.take_succ_eq_append_getElem h, crcFold_append]; rfl
theorem and1 (c : UInt32) : bits .and .u32 (un32 c) 1 = un32 (c &&& 1) := and32 c 1
theorem xorPoly (c : UInt32) : bits .xor .u32 (un32 c) 3988292384 = un32 (c ^^^ 0xedb88320) := xor32 c 0xedb88320
theorem xorOnes (c : UInt32) : bits .xor .u32 (un32 c) 4294967295 = un32 (c ^^^ 0xffffffff) := xor32 c 0xffffffff
theorem notOnes (c : UInt32) : bits .xor .u32 IntKind.u32.max (un32 c) = un32 (c ^^^ 0xffffffff) := by
  rw [show IntKind.u32.max = un32 0xffffffff from by decide +kernel, xor32, UInt32.xor_comm]
theorem low_eq (c : UInt32) (h : c &&& 1 = 1) : (un32 (c &&& 1) == 1) = true := by rw [h]; rfl
theorem low_ne (c : UInt32) (h : ¬ c &&& 1 = 1) : (un32 (c &&& 1) == 1) = false := by
  rw [beq_eq_false_iff_ne]
  intro e
  exact h (un32_inj e)

theorem crcBit_set (c : UInt32) (h : c &&& 1 = 1) : (c >>> 1) ^^^ 0xedb88320 = crcBit c := by rw [crcBit, if_pos h]
theorem crcBit_clear (c : UInt32) (h : ¬ c &&& 1 = 1) : c >>> 1 = crcBit c := by rw [crcBit, if_neg h]

section
attribute [local go_sem] un8_mod32 xor32 and1 xorPoly xorOnes notOnes shr1_int
set_option maxHeartbeats 1000000 in
theorem crc_any (A : Option Addr) (n c : Nat) (l : List UInt8) (w : World) (hl : l.length = n) (hn : n ≤ 9223372036854775807) (hr : RB w A l) :
    Calls Try.prog 32 #[.slice A n c] w fun e w' => e = .returned (.int .u32 (un32 (crcOf l))) ∧ w = w' := by
  subst hl
  have HR := Lib.hid hr
  clear hr
  go_enter Try.func32, Try.ntmps32
  go_wp2
  go_loopg [3, 9] l.length (fun k s3 s9 wr => ∃ i : Nat, i ≤ l.length ∧ k = l.length - i ∧ s9 = .int .i64 (i : Int) ∧ s3 = .int .u32 (un32 (crcFold (l.take i) 0xffffffff)) ∧ w = wr)
  case atStart => exact ⟨0, Nat.zero_le _, by omega, rfl, rfl, rfl⟩
  case round =>
    obtain ⟨i, hi, hk, rfl, rfl, rfl⟩ := hrel
    have HK := Lib.hid hk
    clear hk
    by_cases hlt : i < l.length
    · obtain ⟨ad, rfl, hc⟩ := HR.out.at_ i hlt
      have HS := Lib.hid (crcFold_snoc l i hlt 0xffffffff)
      rw [crcByte_bits] at HS
      go_wp2
      generalize crcFold (List.take i l) 4294967295 ^^^ l[i].toUInt32 = c0 at HS ⊢
      go_loopg [3, 17] 8 (fun k s3 s17 wr => ∃ j : Nat, j ≤ 8 ∧ k = 8 - j ∧ s17 = .int .i64 (j : Int) ∧ s3 = .int .u32 (un32 (crcBits j c0)) ∧ w = wr)
      case atStart => exact ⟨0, by omega, by omega, rfl, rfl, rfl⟩
      case round =>
        rename_i gk2 _ _ _
        obtain ⟨j, hj, hk2, rfl, rfl, rfl⟩ := hrel
        have HK2 := Lib.hid hk2
        clear hk2
        by_cases hlt2 : j < 8
        · by_cases hb : crcBits j c0 &&& 1 = 1
          · have h1 := low_eq _ hb
            have HB := Lib.hid (crcBit_set _ hb)
            clear hb
            go_wp2
            go_roundg (8 - (j + 1))
            case measure => have := HK2.out; omega
            case rel => exact ⟨j + 1, by omega, rfl, by go_num, by rw [HB.out]; rfl, rfl⟩
          · have h1 := low_ne _ hb
            have HB := Lib.hid (crcBit_clear _ hb)
            clear hb
            go_wp2
            go_roundg (8 - (j + 1))
            case measure => have := HK2.out; omega
            case rel => exact ⟨j + 1, by omega, rfl, by go_num, by rw [HB.out]; rfl, rfl⟩
        · obtain rfl : j = 8 := by omega
          go_wp2
          go_roundg (l.length - (i + 1))
          case measure => have := HK.out; omega
          case rel => exact ⟨i + 1, by omega, rfl, by go_num, by rw [HS.out], rfl⟩
    · obtain rfl : i = l.length := by omega
      rw [List.take_length]
      go_wp2
      go_ret
      exact ⟨rfl, rfl⟩

end
end Go.Proofs.Ythlbmjjodjepjaa
