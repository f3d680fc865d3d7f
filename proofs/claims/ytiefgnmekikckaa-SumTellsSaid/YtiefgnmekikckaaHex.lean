/-
  The walk of sum.Hex.
-/
import Derived.Test.YtiefgnmekikckaaSumPure
import Derived.Test.YtiefgnmekikckaaMem
set_option linter.unusedVariables false
set_option linter.unusedSimpArgs false
namespace Go.Proofs.Ytiefgnmekikckaa
open Go.RowKit

theorem hexIdx (k : Nat) (hk : k < 16) (w : World) : (Instr.index 9 (.string ⟨#[48, 49, 50, 51, 52, 53, 54, 55, 56, 57, 97, 98, 99, 100, 101, 102]⟩) (.int .u8 (k : Int))).run Try.prog w = .ok (.int .u8 (un8 (hexDig k))) w := by
  have h : k = 0 ∨ k = 1 ∨ k = 2 ∨ k = 3 ∨ k = 4 ∨ k = 5 ∨ k = 6 ∨ k = 7 ∨ k = 8 ∨ k = 9 ∨ k = 10 ∨ k = 11 ∨ k = 12 ∨ k = 13 ∨ k = 14 ∨ k = 15 := by omega
  clear hk
  rcases h with rfl | rfl | rfl | rfl | rfl | rfl | rfl | rfl | rfl | rfl | rfl | rfl | rfl | rfl | rfl | rfl <;> rfl

theorem un8_hi (b : UInt8) : un8 b / 16 = ((b.toNat / 16 : Nat) : Int) := by unfold un8; omega
theorem un8_lo (b : UInt8) : bits .and .u8 (un8 b) 15 = ((b.toNat % 16 : Nat) : Int) := by
  have h := u8_and15 (un8 b) (un8_range b).1 (un8_range b).2
  rw [h]
  unfold un8
  omega
theorem hexOf_snoc (l : List UInt8) (i : Nat) (h : i < l.length) : hexOf (l.take (i + 1)) = hexOf (l.take i) ++ [hexDig (l[i].toNat / 16), hexDig (l[i].toNat % 16)] := by
  rw [List.take_succ_eq_append_getElem h, hexOf_append]; rfl

set_option maxHeartbeats 2000000 in
theorem hex_any (A : Option Addr) (n c : Nat) (l : List UInt8) (w : World) (hl : l.length = n) (hn : n ≤ 100000000) (hr : RB w A l) :
    Calls Try.prog 18 #[.slice A n c] w fun e w' => e = .returned (.string ⟨(hexOf l).toArray⟩) ∧ Below w.heap.size w w' := by
  subst hl
  have HR := Lib.hid hr
  clear hr
  go_enter Try.func18, Try.ntmps18
  go_wp2
  go_loopg [3, 8] l.length (fun k s3 s8 wr => ∃ i : Nat, i ≤ l.length ∧ k = l.length - i ∧ s8 = .int .i64 (i : Int) ∧ wr.ownsRow w.heap.size 5 1 s3 (hexOf (l.take i)).length (bv (hexOf (l.take i))) ∧ Below w.heap.size w wr)
  case atStart => exact ⟨0, Nat.zero_le _, by omega, rfl, World.ownsRow_nil _ _ _ _, Below.refl _ _⟩
  case round =>
    obtain ⟨i, hi, hk, rfl, hown, hb⟩ := hrel
    have HK := Lib.hid hk
    clear hk
    by_cases hlt : i < l.length
    · obtain ⟨ad, rfl, hc0⟩ := HR.out.at_ i hlt
      have hc := cell_below hb hc0
      have HO := Lib.hid hown
      have HB := Lib.hid hb
      clear hc0 hb hown
      have HS := Lib.hid (hexOf_snoc l i hlt)
      go_wp2
      generalize l[i] = b at HS hc ⊢
      have hd : ∃ k1 k2 : Nat, k1 = b.toNat / 16 ∧ k2 = b.toNat % 16 ∧ k1 < 16 ∧ k2 < 16 := ⟨_, _, rfl, rfl, by have := b.toNat_lt; omega, by omega⟩
      obtain ⟨k1, k2, hk1, hk2, hl1, hl2⟩ := hd
      have e1 := un8_hi b
      have e2 := un8_lo b
      rw [← hk1] at e1
      rw [← hk2] at e2
      have i1 := hexIdx k1 hl1
      have i2 := hexIdx k2 hl2
      rw [← hk1, ← hk2] at HS
      clear hk1 hk2
      have hz := HB.out.size
      have hlen : (hexOf (List.take i l)).length ≤ 200000000 := by rw [hexOf_length, List.length_take]; omega
      go_region_law (refine step_append_any rfl (.tmp 12) (.tmp 19) 22 rfl w.heap.size 5 (.int .u8 0) 1 1 Try.underlying22 info8 rfl (by omega) (by omega) _ _ _ rfl (World.ownsRow.alloc (w := wr.drew) HO.out _) _ 2 _ (bv [hexDig k1, hexDig k2]) rfl rfl (RC_newL wr.drew (bv [hexDig k1, hexDig k2]) 5) (bv_one _) (by omega) (by simp; omega) ?_; intro v1 w1 ho1 hg1 _)
      all_goals
        go_wp2
        go_roundg (l.length - (i + 1))
        case measure => have := HK.out; omega
        case rel => 
          refine ⟨i + 1, by omega, rfl, by go_num, ?_, ?_⟩
          · rw [HS.out, bv_append, List.length_append]; exact ho1
          · exact (((Below.drew HB.out).alloc (by simpa using hz) _).grown hg1 (by simp; omega) (fun k hk => (World.ownsRow.lt HO.out k hk).1))
    · obtain rfl : i = l.length := by omega
      rw [List.take_length] at hown
      obtain ⟨A3, c3, rfl, _⟩ := own_slice hown
      have hst := run_string_RB (P := Try.prog) wr 22 9 5 Try.underlying22 Try.underlying5 Try.underlying9 A3 _ c3 _ rfl (own_RC hown).bytes
      have HB := Lib.hid hb
      clear hb hown
      go_wp2
      go_ret
      exact ⟨rfl, HB.out⟩

end Go.Proofs.Ytiefgnmekikckaa
