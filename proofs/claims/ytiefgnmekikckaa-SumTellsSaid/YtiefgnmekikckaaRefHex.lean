/-
  The walk of the reference's Hex.
-/
import Derived.Test.YtiefgnmekikckaaHex
import Derived.Test.YtiefgnmekikckaaArr
set_option linter.unusedVariables false
set_option linter.unusedSimpArgs false
namespace Go.Proofs.Ytiefgnmekikckaa
open Go.RowKit

theorem hexSub (k : Nat) (hk : k < 16) (w : World) : (Instr.slice 9 (.string ⟨#[48, 49, 50, 51, 52, 53, 54, 55, 56, 57, 97, 98, 99, 100, 101, 102]⟩) (some (.int .u8 (k : Int))) (some (.int .u8 ((k : Int) + 1))) none).run Try.prog w = .ok (.string ⟨#[hexDig k]⟩) w := by
  have h : k = 0 ∨ k = 1 ∨ k = 2 ∨ k = 3 ∨ k = 4 ∨ k = 5 ∨ k = 6 ∨ k = 7 ∨ k = 8 ∨ k = 9 ∨ k = 10 ∨ k = 11 ∨ k = 12 ∨ k = 13 ∨ k = 14 ∨ k = 15 := by omega
  clear hk
  rcases h with rfl | rfl | rfl | rfl | rfl | rfl | rfl | rfl | rfl | rfl | rfl | rfl | rfl | rfl | rfl | rfl <;> rfl

set_option maxHeartbeats 2000000 in
theorem refHex_any (A : Option Addr) (n c : Nat) (l : List UInt8) (w : World) (hl : l.length = n) (hn : n ≤ 1000000) (hr : RB w A l) :
    Calls Try.prog 41 #[.slice A n c] w fun e w' => e = .returned (.string ⟨(hexOf l).toArray⟩) ∧ Below w.heap.size w w' := by
  subst hl
  have HR := Lib.hid hr
  clear hr
  go_enter Try.func41, Try.ntmps41
  go_wp2
  go_loopg [3, 4] l.length (fun k s3 s4 wr => ∃ i : Nat, i ≤ l.length ∧ k = l.length - i ∧ s4 = .int .i64 (i : Int) ∧ s3 = .string ⟨(hexOf (l.take i)).toArray⟩ ∧ Below w.heap.size w wr)
  case atStart => exact ⟨0, Nat.zero_le _, by omega, rfl, rfl, Below.refl _ _⟩
  case round =>
    obtain ⟨i, hi, hk, rfl, rfl, hb⟩ := hrel
    have HK := Lib.hid hk
    have HB := Lib.hid hb
    clear hk hb
    by_cases hlt : i < l.length
    · obtain ⟨b, o, rfl, e1⟩ := HR.out.parts (by omega)
      have c0 := cell_below HB.out (e1 i hlt)
      have HS := Lib.hid (hexOf_snoc l i hlt)
      have hsz : (hexOf (l.take i)).length ≤ 2000000 := by rw [hexOf_length, List.length_take]; omega
      generalize l[i] = x at *
      clear e1
      obtain ⟨k1, k2, hk1, hk2, hl1, hl2⟩ : ∃ k1 k2 : Nat, k1 = x.toNat / 16 ∧ k2 = x.toNat % 16 ∧ k1 < 16 ∧ k2 < 16 := ⟨_, _, rfl, rfl, by have := x.toNat_lt; omega, by omega⟩
      have e1 := un8_hi x
      have e2 := un8_lo x
      rw [← hk1] at e1
      rw [← hk2] at e2
      rw [← hk1, ← hk2] at HS
      have i1 := hexSub k1 hl1
      have i2 := hexSub k2 hl2
      obtain ⟨sa, hsa⟩ : ∃ sa : ByteArray, sa = ⟨(hexOf (l.take i)).toArray⟩ := ⟨_, rfl⟩
      rw [← hsa]
      have hsa2 : sa.size ≤ 2000000 := by rw [hsa]; show (hexOf (l.take i)).toArray.size ≤ _; rw [List.size_toArray]; exact hsz
      have HSA := Lib.hid hsa
      have HLT := Lib.hid hlt
      have hi0 : (0 : Int) ≤ (i : Int) := by omega
      have hi1 : (i : Int) < (l.length : Int) := by omega
      clear hk1 hk2 hsz hsa hi hlt
      go_upto_region 5 with fail
      go_quiet (fail)
      obtain ⟨z0, hz0⟩ : ∃ z0 : ByteArray, z0 = sa ++ ⟨#[hexDig k1]⟩ ++ ⟨#[hexDig k2]⟩ := ⟨_, rfl⟩
      rw [← hz0]
      have HZ := Lib.hid hz0
      clear hz0 i1 i2 e1 e2 c0
      go_wp2
      go_roundg (l.length - (i + 1))
      case measure => have := HK.out; have := HLT.out; omega
      case rel =>
        refine ⟨i + 1, HLT.out, rfl, by go_num, ?_, (Upd.drewN (Upd.of_below (F := fun k => w.heap.size ≤ k) HB.out) _).to_below (Nat.le_refl _) (fun k hk => by omega)⟩
        rw [HZ.out, HS.out, HSA.out]
        congr 1
        apply ByteArray.ext
        simp
    · obtain rfl : i = l.length := by omega
      rw [List.take_length]
      go_wp2
      go_ret
      exact ⟨rfl, HB.out⟩
end Go.Proofs.Ytiefgnmekikckaa
