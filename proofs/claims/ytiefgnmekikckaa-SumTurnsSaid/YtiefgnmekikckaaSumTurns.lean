/-
  The walk of the law SumTurns.
-/
import Derived.Test.YtiefgnmekikckaaKnown2
import Derived.Test.YtiefgnmekikckaaWithin
import Derived.Lib.Strings
set_option linter.unusedVariables false
set_option linter.unusedSimpArgs false
namespace Go.Proofs.Ytiefgnmekikckaa
open Go.RowKit

theorem flip_bit (b : UInt8) (j : Nat) (hj : j < 8) : ∃ y : UInt8, y ≠ b ∧ bits .xor .u8 (un8 b) (IntKind.u8.wrap (2 ^ min (IntKind.u64.wrap (j : Int)).toNat 8)) = un8 y := by
  have key : ∃ m : UInt8, m ≠ 0 ∧ IntKind.u8.wrap (2 ^ min (IntKind.u64.wrap (j : Int)).toNat 8) = un8 m := by
    have h : j = 0 ∨ j = 1 ∨ j = 2 ∨ j = 3 ∨ j = 4 ∨ j = 5 ∨ j = 6 ∨ j = 7 := by omega
    rcases h with rfl | rfl | rfl | rfl | rfl | rfl | rfl | rfl
    · exact ⟨1, by decide, by decide +kernel⟩
    · exact ⟨2, by decide, by decide +kernel⟩
    · exact ⟨4, by decide, by decide +kernel⟩
    · exact ⟨8, by decide, by decide +kernel⟩
    · exact ⟨16, by decide, by decide +kernel⟩
    · exact ⟨32, by decide, by decide +kernel⟩
    · exact ⟨64, by decide, by decide +kernel⟩
    · exact ⟨128, by decide, by decide +kernel⟩
  obtain ⟨m, hm, e⟩ := key
  refine ⟨b ^^^ m, fun h => hm ?_, by rw [e, xor8]⟩
  have h2 := congrArg (b ^^^ ·) h
  simpa [← UInt8.xor_assoc] using h2

set_option maxHeartbeats 4000000 in
theorem sumTurns_any (A : Option Addr) (n c : Nat) (l : List UInt8) (at_ bit : Int) (w : World) (hl : l.length = n) (hnc : n ≤ c) (hcm : c ≤ maxLen) (hr : RB w A l) :
    Calls Try.prog 3 #[.slice A n c, .int .i64 at_, .int .i64 bit] w fun e w' => e = .returned (.bool true) ∧ Below w.heap.size w w' := by
  subst hl
  unfold maxLen at hcm
  by_cases h0 : l.length = 0
  · have h0' : ((l.length : Int) == 0) = true := by simp [h0]
    clear h0
    go_enter Try.func3, Try.ntmps3
    go_wp2_with fail
    refine (known2_any _).mono ?_
    rintro e w6 ⟨rfl, hb6⟩
    have HB6 := Lib.hid hb6
    clear hb6
    go_wp2_with fail
    go_ret
    exact ⟨rfl, HB6.out⟩
  · have h0' : ((l.length : Int) == 0) = false := by simp [h0]
    have hpos : 0 < l.length := by omega
    clear h0
    go_enter Try.func3, Try.ntmps3
    go_upto_if 15 with fail
    go_cut [0] (fun s0 wx => ∃ (m : Nat) (l1 : List UInt8), l1.length = m ∧ 0 < m ∧ m ≤ 2000 ∧ m ≤ c ∧ RB w A l1 ∧ s0 = .slice A m c ∧ w = wx)
    case first =>
      go_wp2_with fail
      · go_meet
        exact ⟨2000, l.take 2000, by simp; omega, by omega, by omega, by omega, RB_take hr _, rfl, rfl⟩
      · go_meet
        exact ⟨l.length, l, rfl, by omega, by omega, by omega, hr, rfl, rfl⟩
    case rest =>
      obtain ⟨m, l1, hl1, hm0, hm, hmc, hr1, rfl, rfl⟩ := hcut
      subst hl1
      have HR := Lib.hid hr1
      clear hr1 hr h0' hpos
      go_wp2_with (at_builtin; refine append_bytes rfl _ _ 22 rfl w.heap.size 5 Try.underlying22 info8 _ [] rfl (World.ownsRow_lit w #[] 0 (Nat.le_refl _) (by simp [maxLen]) rfl) _ _ _ l1 rfl rfl (HR.out.below ((Below.refl _ _).alloc (Nat.le_refl _) _)) ?c1 ?c2 ?_)
      case c1 => simp; omega
      case c2 => simp
      intro v w1 ho hg hat
      obtain ⟨g, cc, rfl, hbg, hcc⟩ := own_form ho hm0
      have HO := Lib.hid ho
      have HG := Lib.hid hg
      clear ho hg hat
      go_wp2_with fail
      refine (within_any _ 0 ((l1.length : Int) - 1) _ (by omega) (by omega) (by omega) (by omega)).mono ?_
      rintro e w2 ⟨rfl, rfl⟩
      have hw := withinOf_range at_ 0 ((l1.length : Int) - 1) (by omega)
      obtain ⟨k, hk⟩ := Int.eq_ofNat_of_zero_le hw.1
      have hkl : k < l1.length := by omega
      rw [hk]
      have hcell := own_byte HO.out k hkl
      have hfro := HO.out.frozenAt k
      have hw2 := withinOf_range bit 0 7 (by omega)
      obtain ⟨j, hj⟩ := Int.eq_ofNat_of_zero_le hw2.1
      have hj8 : j < 8 := by omega
      have HJ := Lib.hid hj
      clear hw hw2 hk hj
      go_upto_region 7 with fail
      go_cut [] (fun wx => ∃ y : UInt8, y ≠ l1[k] ∧ wx.ownsRow w.heap.size 5 1 (.slice (some ⟨g, 0, none⟩) l1.length cc) l1.length (bv (l1.set k y)) ∧ Below w.heap.size w wx)
      case first =>
        go_region_with (go_at_call 16; refine (within_any bit 0 7 _ (by omega) (by omega) (by omega) (by omega)).mono ?_; rw [HJ.out]; rintro e w3 ⟨rfl, rfl⟩)
        all_goals (go_wp2_with fail; go_meet)
        all_goals
          obtain ⟨y, hy, ey⟩ := flip_bit l1[k] j hj8
          rw [ey]
          have hst := HO.out.stored k (.int .u8 (un8 y))
          rw [show (bv l1).set k (.int .u8 (un8 y)) = bv (l1.set k y) by simp [bv, List.map_set, B8]] at hst
          refine ⟨y, hy, hst.1, ?_⟩
          exact ((((Below.refl _ _).alloc (Nat.le_refl _) _).grown HG.out (by simp) (fun k hk => by simp [Value.ownBlock] at hk; omega)).setCell hbg _).drew
      case rest =>
        obtain ⟨y, hy, ho, hb⟩ := hcut
        have hne1 := crcOf_set l1 k hkl y (Ne.symm hy)
        have hne2 := hexOf_set l1 k hkl y (Ne.symm hy)
        have hl2 : (l1.set k y).length = l1.length := by simp
        have HO2 := Lib.hid ho
        have HB2 := Lib.hid hb
        generalize l1.set k y = l2 at HO2 hne1 hne2 hl2
        have HL2 := Lib.hid hl2
        have hc1 : (un32 (crcOf l1) == un32 (crcOf l2)) = false := beq_eq_false_iff_ne.2 (fun e => hne1 (un32_inj e))
        have hc2 : (un32 (crcOf l1) != un32 (crcOf l2)) = true := by rw [bne_iff_ne]; exact fun e => hne1 (un32_inj e)
        have HN := Lib.hid hne2
        clear hy ho hb hne1 hne2 hl2 hcell hfro hc1
        go_wp2_with fail
        refine (crc_any _ l1.length _ l1 _ rfl (by omega) ?hr1).mono ?_
        case hr1 => exact HR.out.below HB2.out
        rintro e w3 ⟨rfl, rfl⟩
        go_wp2_with fail
        refine (crc_any _ l1.length _ l2 _ HL2.out (by omega) (own_RC HO2.out).bytes).mono ?_
        rintro e w4 ⟨rfl, rfl⟩
        go_wp2_with fail
        refine (hex_any _ l1.length _ l1 _ rfl (by omega) (HR.out.below HB2.out)).mono ?_
        rintro e w5 ⟨rfl, hb5⟩
        have HB5 := Lib.hid (below_below HB2.out HB2.out.size hb5)
        have HO5 := Lib.hid (own_below HO2.out hb5)
        clear hb5
        have hA : ∃ s1 s2 : ByteArray, s1 = ⟨(hexOf l1).toArray⟩ ∧ s2 = ⟨(hexOf l2).toArray⟩ ∧ (s1.toList == s2.toList) = false ∧ s1.size = 2 * l1.length := by
          refine ⟨_, _, rfl, rfl, ?_, ?_⟩
          · rw [beq_eq_false_iff_ne, Lib.toList_data, Lib.toList_data]
            exact HN.out
          · show (hexOf l1).toArray.size = _
            rw [List.size_toArray, hexOf_length]
        obtain ⟨s1, s2, e1, e2, hne, hsz⟩ := hA
        rw [← e1]
        have E1 := Lib.hid e1
        have E2 := Lib.hid e2
        have HSZ := Lib.hid hsz
        clear e1 e2 hsz
        go_wp2_with fail
        refine (hex_any _ l1.length _ l2 _ HL2.out (by omega) (own_RC HO5.out).bytes).mono ?_
        rintro e w6 ⟨rfl, hb6⟩
        have HB6 := Lib.hid (below_below HB5.out HB5.out.size hb6)
        clear hb6
        rw [← E2.out]
        go_wp2_with fail
        refine (hex_any _ l1.length _ l1 _ rfl (by omega) (HR.out.below HB6.out)).mono ?_
        rintro e w7 ⟨rfl, hb7⟩
        have HB7 := Lib.hid (below_below HB6.out HB6.out.size hb7)
        clear hb7
        rw [← E1.out]
        have hsz2 : ((s1.size : Int) == 2 * (l1.length : Int)) = true := by rw [HSZ.out]; simp
        go_wp2_with fail
        refine (known2_any _).mono ?_
        rintro e w8 ⟨rfl, hb8⟩
        have HB8 := Lib.hid (below_below HB7.out HB7.out.size hb8)
        clear hb8
        go_wp2_with fail
        go_ret
        exact ⟨rfl, HB8.out⟩
end Go.Proofs.Ytiefgnmekikckaa
