/-
  The walk of the law SumTells.
-/
import Derived.Test.YtiefgnmekikckaaSumLengths
import Derived.Test.YtiefgnmekikckaaBook
import Derived.Test.YtiefgnmekikckaaRefHash
import Derived.Test.YtiefgnmekikckaaRefHex
import Derived.Test.YtiefgnmekikckaaOutline
set_option linter.unusedVariables false
set_option linter.unusedSimpArgs false
namespace Go.Proofs.Ytiefgnmekikckaa
open Go.RowKit

theorem roomy165 (A : Option Addr) (n c : Nat) (l : List UInt8) (w : World) (hl : l.length = n) (hn : n ≤ 100000000) (hr : RB w A l) :
    Calls Try.prog 28 #[.slice A n c, .int .u8 165] w fun e w' => e = .returned (.slice (some ⟨w.heap.size, 0, none⟩) (n + 80) (n + 80)) ∧ Arr w' w.heap.size 5 (bv (l ++ List.replicate 80 165)) ∧ Below w.heap.size w w' := roomy8_any A n c l 165 w hl hn hr
theorem intact165 (A1 A2 : Option Addr) (n c1 c2 : Nat) (l : List UInt8) (w : World) (hl : l.length = n) (hn : n ≤ 100000000) (hc : n + 80 ≤ c1) (h1 : RB w A1 (l ++ List.replicate 80 165)) (h2 : RB w A2 l) :
    Calls Try.prog 30 #[.slice A1 (n + 80) c1, .slice A2 n c2, .int .u8 165] w fun e w' => e = .returned (.bool true) ∧ Below w.heap.size w w' := intact8_any A1 A2 n c1 c2 l 165 w hl hn hc h1 h2

set_option maxRecDepth 10000 in
set_option maxHeartbeats 4000000 in
theorem sumTells_any (A : Option Addr) (n c : Nat) (l : List UInt8) (w : World) (hl : l.length = n) (hnc : n ≤ c) (hcm : c ≤ maxLen) (hr : RB w A l) :
    Calls Try.prog 14 #[.slice A n c] w fun e w' => e = .returned (.bool true) ∧ Below w.heap.size w w' := by
  subst hl
  unfold maxLen at hcm
  go_enter Try.func14, Try.ntmps14
  go_upto_if 8 with fail
  go_cut [0] (fun s0 wx => ∃ (m : Nat) (l1 : List UInt8), l1.length = m ∧ m ≤ 400 ∧ m ≤ c ∧ RB w A l1 ∧ s0 = .slice A m c ∧ w = wx)
  case first =>
    go_wp2_with fail
    · go_meet
      exact ⟨400, l.take 400, by simp; omega, by omega, by omega, RB_take hr _, rfl, rfl⟩
    · go_meet
      exact ⟨l.length, l, rfl, by omega, by omega, hr, rfl, rfl⟩
  case rest =>
    obtain ⟨m, l1, hl1, hm, hmc, hr1, rfl, rfl⟩ := hcut
    subst hl1
    have HR := Lib.hid hr1
    clear hr1 hr
    go_wp2_with fail
    refine (roomy165 A l1.length c l1 w rfl (by omega) HR.out).mono ?_
    rintro e w1 ⟨rfl, ha1, hb1⟩
    have HA1 := Lib.hid ha1
    have HB1 := Lib.hid hb1
    clear ha1 hb1
    have HX1 := Lib.hid (show RB w1 (some ⟨w.heap.size, 0, none⟩) l1 by
      intro h0
      exact ⟨_, rfl, fun j hj => by rw [add_plain]; have h := HA1.out.byte (i := j) (by simp; omega); rw [List.getElem_append_left hj] at h; exact h⟩)
    go_wp2_with fail
    refine (sha_any (some ⟨w.heap.size, 0, none⟩) l1.length (l1.length + 80) l1 w1 rfl (by omega) HX1.out).mono ?_
    rintro e w2 ⟨rfl, hb2⟩
    obtain ⟨cs, hcs⟩ : ∃ cs, cs = (bv (shaOf l1)).toArray := ⟨_, rfl⟩
    rw [← hcs]
    have HC := Lib.hid hcs
    clear hcs
    have HA2 := Lib.hid (HA1.out.below hb2 HA1.out.lt)
    have HB2 := Lib.hid (below_below HB1.out HB1.out.size hb2)
    clear hb2 HA1 HX1 HB1
    go_upto_region 6 with (refine wpList_store_row rfl 72 (.tmp 5) (.tmp 18) rfl w2.heap.size cs rfl rfl 72 (bv (List.replicate 32 0)).toArray (heap_alloc_new w2 _) (by rw [HC.out]; exact sha_size _) (by rw [HC.out]; exact z32_size _) (by rw [HC.out]; exact all_oneCell_toArray (bv_one _)) ?_)
    obtain ⟨wr, hwr⟩ : ∃ wr, wr = (w2.alloc (.cells (bv (List.replicate 32 0)).toArray 72)).setRow w2.heap.size cs := ⟨_, rfl⟩
    show Code.wp _ _ _ _ ((w2.alloc (.cells (bv (List.replicate 32 0)).toArray 72)).setRow w2.heap.size cs)
    rw [← hwr]
    have hA5 : Arr wr w2.heap.size 72 (bv (shaOf l1)) := by rw [hwr, HC.out]; exact (Arr.new w2 _ _).setRow _
    have hA3 : Arr wr w.heap.size 5 (bv (l1 ++ List.replicate 80 165)) := by rw [hwr]; exact (HA2.out.alloc _).setRow_other _ _ (by have := HA2.out.lt; omega)
    have hB3 : Below w.heap.size w wr := by rw [hwr]; exact below_setRow (HB2.out.alloc HB2.out.size _) _ _ HB2.out.size
    have HA5 := Lib.hid hA5
    have HB3 := Lib.hid hB3
    have HF := Lib.hid (show RB wr (some ⟨w.heap.size, 0, none⟩) (l1 ++ List.replicate 80 165) by
      intro _
      exact ⟨_, rfl, fun j hj => by rw [add_plain]; exact hA3.byte hj⟩)
    have HX := Lib.hid (show RB wr (some ⟨w.heap.size, 0, none⟩) l1 by have := RB_take HF.out l1.length; simpa using this)
    have HW := Lib.hid (HR.out.below hB3)
    clear hA5 hA3 hB3 hwr HA2 HB2
    generalize w2.heap.size = q at *
    obtain ⟨z0, ez⟩ : ∃ z0 : ByteArray, z0 = ⟨(hexOf l1).toArray⟩ := ⟨_, rfl⟩
    obtain ⟨z1, ez1⟩ : ∃ z1 : ByteArray, z1 = ⟨l1.toArray⟩ := ⟨_, rfl⟩
    have EZ := Lib.hid ez
    have EZ1 := Lib.hid ez1
    have hz1 : z1.size ≤ 400 := by rw [ez1]; show l1.toArray.size ≤ _; simpa using hm
    clear ez ez1
    have he2 : ∀ w, (Op.equalIn 10000 72 (.agg cs) (.agg cs)).run Try.prog w = .ok true w := fun w => by rw [HC.out]; exact equalIn_same _ (shaOf_length l1) w 9998
    have hsz : (Try.prog.info? 72).map (·.size) = some cs.size := by rw [HC.out]; exact sha_size _
    have HE2 := Lib.hid he2
    have HSZ := Lib.hid hsz
    clear he2 hsz
    refine region_by (fun w' => Below wr.heap.size wr w') [(fun v _ => v = .slice (some ⟨w.heap.size, 0, none⟩) l1.length (l1.length + 80)), fun v _ => v = .int .u32 (un32 (crcOf l1)), (fun v _ => v = .slice A l1.length c), fun v _ => v = .int .u32 (un32 (crcOf l1)), (fun v _ => v = (.bool true)), (fun v _ => v = (.bool true)), fun v _ => v = .agg cs, (fun v _ => v = .slice A l1.length c), fun v _ => v = .agg cs, fun v _ => v = .bool true, (fun v _ => v = (.bool true)), (fun v _ => v = (.bool true)), (fun v _ => v = .slice (some ⟨w.heap.size, 0, none⟩) l1.length (l1.length + 80)), fun v _ => v = .string z0, (fun v _ => v = .slice A l1.length c), fun v _ => v = .string z0, (fun v _ => v = (.bool true)), (fun v _ => v = (.bool true)), (fun v _ => v = (.bool true)), (fun v _ => v = .slice A l1.length c), fun v _ => v = .string z1, fun v _ => v = .int .i64 (hashOf z1), (fun v _ => v = .slice A l1.length c), fun v _ => v = .string z1, fun v _ => v = .int .i64 (hashOf z1), (fun v _ => v = (.bool true)), (fun v _ => v = (.bool true)), (fun v _ => v = (.bool true)), (fun v _ => v = .slice (some ⟨w.heap.size, 0, none⟩) (l1.length + 80) (l1.length + 80)), (fun v _ => v = .slice A l1.length c), fun v _ => v = .bool true, (fun v _ => v = (.bool true)), (fun v _ => v = (.bool true)), fun v _ => v = .bool true, (fun v _ => v = (.bool true)), (fun v _ => v = (.bool true))] (by kernel_rfl) (by kernel_rfl) (by kernel_rfl) rfl ((Below.refl _ _).drew) ?ok6 ?fin6
    case ok6 =>
      refine ⟨?_, ?_, ?_, ?_, ?_, ?_, ?_, ?_, ?_, ?_, ?_, ?_, ?_, ?_, ?_, ?_, ?_, ?_, ?_, ?_, ?_, ?_, ?_, ?_, ?_, ?_, ?_, ?_, ?_, ?_, ?_, ?_, ?_, ?_, ?_, ?_, trivial⟩
      · intro a' w' K hI hd hq hK
        have e4 : a'.eval (.tmp 4) = .slice (some ⟨w.heap.size, 0, none⟩) l1.length (l1.length + 80) := (hq 4 (by kernel_rfl)).trans rfl
        clear hd hq
        refine op_value (wanted_free _ _ (by rfl)) (v := .slice (some ⟨w.heap.size, 0, none⟩) l1.length (l1.length + 80)) (w'' := w') ?_ (hK _ _ hI (fun _ _ h => h) rfl)
        clear hK
        simp only [execOp, e4]
        have f4 : a'.tmps[4]?.getD undef = .slice (some ⟨w.heap.size, 0, none⟩) l1.length (l1.length + 80) := (Array.getD_eq_getD_getElem? ..).symm.trans e4
        clear e4
        first | rfl | (go_simp <;> exact IntWalk.i64_in _ (by omega))
      · intro a' w' K hI hd hq hK
        have e19 : a'.eval (.tmp 19) = .slice (some ⟨w.heap.size, 0, none⟩) l1.length (l1.length + 80) := (hd 0 19 (by kernel_rfl))
        clear hd hq
        refine op_call #[.slice (some ⟨w.heap.size, 0, none⟩) l1.length (l1.length + 80)] (wanted_free _ _ (by rfl)) rfl Try.func17 (by kernel_rfl) rfl (by simp [e19]) ?_
        refine (crc_any _ l1.length _ l1 w' rfl (by omega) (HX.out.below hI)).mono ?_
        rintro e w8 ⟨rfl, rfl⟩
        exact ⟨_, rfl, hK _ _ hI (fun _ _ h => h) rfl⟩
      · intro a' w' K hI hd hq hK
        have e0 : a'.eval (.tmp 0) = .slice A l1.length c := (hq 0 (by kernel_rfl)).trans rfl
        clear hd hq
        refine op_value (wanted_free _ _ (by rfl)) (v := .slice A l1.length c) (w'' := w') ?_ (hK _ _ hI (fun _ _ h => h) rfl)
        clear hK
        simp only [execOp, e0]
        have f0 : a'.tmps[0]?.getD undef = .slice A l1.length c := (Array.getD_eq_getD_getElem? ..).symm.trans e0
        clear e0
        first | rfl | (go_simp <;> exact IntWalk.i64_in _ (by omega))
      · intro a' w' K hI hd hq hK
        have e21 : a'.eval (.tmp 21) = .slice A l1.length c := (hd 2 21 (by kernel_rfl))
        clear hd hq
        refine op_call #[.slice A l1.length c] (wanted_free _ _ (by rfl)) rfl Try.func40 (by kernel_rfl) rfl (by simp [e21]) ?_
        refine (refCrc_any _ l1.length _ l1 w' rfl (by omega) (HW.out.below hI)).mono ?_
        rintro e w8 ⟨rfl, rfl⟩
        exact ⟨_, rfl, hK _ _ hI (fun _ _ h => h) rfl⟩
      · intro a' w' K hI hd hq hK
        have e20 : a'.eval (.tmp 20) = .int .u32 (un32 (crcOf l1)) := (hd 1 20 (by kernel_rfl))
        have e22 : a'.eval (.tmp 22) = .int .u32 (un32 (crcOf l1)) := (hd 3 22 (by kernel_rfl))
        clear hd hq
        refine op_value (wanted_free _ _ (by rfl)) (v := (.bool true)) (w'' := w') ?_ (hK _ _ hI (fun _ _ h => h) rfl)
        clear hK
        simp only [execOp, e20, e22]
        have f20 : a'.tmps[20]?.getD undef = .int .u32 (un32 (crcOf l1)) := (Array.getD_eq_getD_getElem? ..).symm.trans e20
        have f22 : a'.tmps[22]?.getD undef = .int .u32 (un32 (crcOf l1)) := (Array.getD_eq_getD_getElem? ..).symm.trans e22
        clear e20 e22
        first | rfl | (go_simp <;> exact IntWalk.i64_in _ (by omega))
      · intro a' w' K hI hd hq hK
        have e23 : a'.eval (.tmp 23) = (.bool true) := (hd 4 23 (by kernel_rfl))
        clear hd hq
        refine op_value (wanted_free _ _ (by rfl)) (v := (.bool true)) (w'' := w') ?_ (hK _ _ hI (fun _ _ h => h) rfl)
        clear hK
        simp only [execOp, e23]
        have f23 : a'.tmps[23]?.getD undef = (.bool true) := (Array.getD_eq_getD_getElem? ..).symm.trans e23
        clear e23
        first | rfl | (go_simp <;> exact IntWalk.i64_in _ (by omega))
      · intro a' w' K hI hd hq hK
        have hg := hd 5 24 (by kernel_rfl)
        have e5 : a'.eval (.tmp 5) = .pointer (some ⟨q, 0, none⟩) := (hq 5 (by kernel_rfl)).trans rfl
        clear hd hq
        refine op_value (wanted_on _ a' 5 24 true (by rfl) (by rfl) hg) (v := .agg cs) (w'' := w') ?_ (hK _ _ hI (fun _ _ h => h) rfl)
        simp only [execOp, e5, Instr.loadAt, Instr.sureAddr, Sem.run_bind, Sem.run_pure, Result.andThen_ok, run_loadVar_row w' q 72 72 cs (0, 0) _ (by rw [HC.out]; exact HA5.out.below hI HA5.out.lt) Try.underlying72 rfl HSZ.out]
      · intro a' w' K hI hd hq hK
        have hg := hd 5 24 (by kernel_rfl)
        have e0 : a'.eval (.tmp 0) = .slice A l1.length c := (hq 0 (by kernel_rfl)).trans rfl
        clear hd hq
        refine op_value (wanted_on _ a' 5 24 true (by rfl) (by rfl) hg) (v := .slice A l1.length c) (w'' := w') ?_ (hK _ _ hI (fun _ _ h => h) rfl)
        clear hK
        simp only [execOp, e0]
        have f0 : a'.tmps[0]?.getD undef = .slice A l1.length c := (Array.getD_eq_getD_getElem? ..).symm.trans e0
        clear e0
        first | rfl | (go_simp <;> exact IntWalk.i64_in _ (by omega))
      · intro a' w' K hI hd hq hK
        have hg := hd 5 24 (by kernel_rfl)
        have e26 : a'.eval (.tmp 26) = .slice A l1.length c := (hd 7 26 (by kernel_rfl))
        clear hd hq
        refine op_call #[.slice A l1.length c] (wanted_on _ a' 5 24 true (by rfl) (by rfl) hg) rfl Try.func39 (by kernel_rfl) rfl (by simp [e26]) ?_
        refine (refSha_any A l1.length c l1 w' rfl (by omega) (HW.out.below hI)).mono ?_
        rintro e w8 ⟨rfl, hb⟩
        exact ⟨_, rfl, hK _ _ (below_below hI hI.size hb) (fun j u => by match j with | 0 | 1 | 2 | 3 | 4 | 5 | 6 | 7 | 8 | 9 | 10 | 11 | 12 | 13 | 14 | 15 | 16 | 17 | 18 | 19 | 20 | 21 | 22 | 23 | 24 | 25 | 26 | 27 | 28 | 29 | 30 | 31 | 32 | 33 | 34 | 35 => exact fun h => h | _ + 36 => exact fun _ => trivial) (show Value.agg (bv (shaOf l1)).toArray = .agg cs by rw [HC.out])⟩
      · intro a' w' K hI hd hq hK
        have hg := hd 5 24 (by kernel_rfl)
        have e25 : a'.eval (.tmp 25) = .agg cs := (hd 6 25 (by kernel_rfl))
        have e27 : a'.eval (.tmp 27) = .agg cs := (hd 8 27 (by kernel_rfl))
        clear hd hq
        refine op_value (wanted_on _ a' 5 24 true (by rfl) (by rfl) hg) (v := .bool true) (w'' := w') ?_ (hK _ _ hI (fun _ _ h => h) rfl)
        have he2 := HE2.out w'
        simp only [execOp, e25, e27]
        clear e25 e27 hK
        go_simp
      · intro a' w' K hI hd hq hK
        have e24 : a'.eval (.tmp 24) = (.bool true) := (hd 5 24 (by kernel_rfl))
        have e28 : a'.eval (.tmp 28) = .bool true := (hd 9 28 (by kernel_rfl))
        clear hd hq
        refine op_value (wanted_free _ _ (by rfl)) (v := (.bool true)) (w'' := w') ?_ (hK _ _ hI (fun _ _ h => h) rfl)
        clear hK
        simp only [execOp, e24, e28]
        have f24 : a'.tmps[24]?.getD undef = (.bool true) := (Array.getD_eq_getD_getElem? ..).symm.trans e24
        have f28 : a'.tmps[28]?.getD undef = .bool true := (Array.getD_eq_getD_getElem? ..).symm.trans e28
        clear e24 e28
        first | rfl | (go_simp <;> exact IntWalk.i64_in _ (by omega))
      · intro a' w' K hI hd hq hK
        have e29 : a'.eval (.tmp 29) = (.bool true) := (hd 10 29 (by kernel_rfl))
        clear hd hq
        refine op_value (wanted_free _ _ (by rfl)) (v := (.bool true)) (w'' := w') ?_ (hK _ _ hI (fun _ _ h => h) rfl)
        clear hK
        simp only [execOp, e29]
        have f29 : a'.tmps[29]?.getD undef = (.bool true) := (Array.getD_eq_getD_getElem? ..).symm.trans e29
        clear e29
        first | rfl | (go_simp <;> exact IntWalk.i64_in _ (by omega))
      · intro a' w' K hI hd hq hK
        have hg := hd 11 30 (by kernel_rfl)
        have e4 : a'.eval (.tmp 4) = .slice (some ⟨w.heap.size, 0, none⟩) l1.length (l1.length + 80) := (hq 4 (by kernel_rfl)).trans rfl
        clear hd hq
        refine op_value (wanted_on _ a' 11 30 true (by rfl) (by rfl) hg) (v := .slice (some ⟨w.heap.size, 0, none⟩) l1.length (l1.length + 80)) (w'' := w') ?_ (hK _ _ hI (fun _ _ h => h) rfl)
        clear hK
        simp only [execOp, e4]
        have f4 : a'.tmps[4]?.getD undef = .slice (some ⟨w.heap.size, 0, none⟩) l1.length (l1.length + 80) := (Array.getD_eq_getD_getElem? ..).symm.trans e4
        clear e4
        first | rfl | (go_simp <;> exact IntWalk.i64_in _ (by omega))
      · intro a' w' K hI hd hq hK
        have hg := hd 11 30 (by kernel_rfl)
        have e31 : a'.eval (.tmp 31) = .slice (some ⟨w.heap.size, 0, none⟩) l1.length (l1.length + 80) := (hd 12 31 (by kernel_rfl))
        clear hd hq
        refine op_call #[.slice (some ⟨w.heap.size, 0, none⟩) l1.length (l1.length + 80)] (wanted_on _ a' 11 30 true (by rfl) (by rfl) hg) rfl Try.func18 (by kernel_rfl) rfl (by simp [e31]) ?_
        refine (hex_any _ l1.length _ l1 w' rfl (by omega) (HX.out.below hI)).mono ?_
        rintro e w8 ⟨rfl, hb⟩
        exact ⟨_, rfl, hK _ _ (below_below hI hI.size hb) (fun j u => by match j with | 0 | 1 | 2 | 3 | 4 | 5 | 6 | 7 | 8 | 9 | 10 | 11 | 12 | 13 | 14 | 15 | 16 | 17 | 18 | 19 | 20 | 21 | 22 | 23 | 24 | 25 | 26 | 27 | 28 | 29 | 30 | 31 | 32 | 33 | 34 | 35 => exact fun h => h | _ + 36 => exact fun _ => trivial) (show Value.string ⟨(hexOf l1).toArray⟩ = .string z0 by rw [EZ.out])⟩
      · intro a' w' K hI hd hq hK
        have hg := hd 11 30 (by kernel_rfl)
        have e0 : a'.eval (.tmp 0) = .slice A l1.length c := (hq 0 (by kernel_rfl)).trans rfl
        clear hd hq
        refine op_value (wanted_on _ a' 11 30 true (by rfl) (by rfl) hg) (v := .slice A l1.length c) (w'' := w') ?_ (hK _ _ hI (fun _ _ h => h) rfl)
        clear hK
        simp only [execOp, e0]
        have f0 : a'.tmps[0]?.getD undef = .slice A l1.length c := (Array.getD_eq_getD_getElem? ..).symm.trans e0
        clear e0
        first | rfl | (go_simp <;> exact IntWalk.i64_in _ (by omega))
      · intro a' w' K hI hd hq hK
        have hg := hd 11 30 (by kernel_rfl)
        have e33 : a'.eval (.tmp 33) = .slice A l1.length c := (hd 14 33 (by kernel_rfl))
        clear hd hq
        refine op_call #[.slice A l1.length c] (wanted_on _ a' 11 30 true (by rfl) (by rfl) hg) rfl Try.func41 (by kernel_rfl) rfl (by simp [e33]) ?_
        refine (refHex_any _ l1.length _ l1 w' rfl (by omega) (HW.out.below hI)).mono ?_
        rintro e w8 ⟨rfl, hb⟩
        exact ⟨_, rfl, hK _ _ (below_below hI hI.size hb) (fun j u => by match j with | 0 | 1 | 2 | 3 | 4 | 5 | 6 | 7 | 8 | 9 | 10 | 11 | 12 | 13 | 14 | 15 | 16 | 17 | 18 | 19 | 20 | 21 | 22 | 23 | 24 | 25 | 26 | 27 | 28 | 29 | 30 | 31 | 32 | 33 | 34 | 35 => exact fun h => h | _ + 36 => exact fun _ => trivial) (show Value.string ⟨(hexOf l1).toArray⟩ = .string z0 by rw [EZ.out])⟩
      · intro a' w' K hI hd hq hK
        have hg := hd 11 30 (by kernel_rfl)
        have e32 : a'.eval (.tmp 32) = .string z0 := (hd 13 32 (by kernel_rfl))
        have e34 : a'.eval (.tmp 34) = .string z0 := (hd 15 34 (by kernel_rfl))
        clear hd hq
        refine op_value (wanted_on _ a' 11 30 true (by rfl) (by rfl) hg) (v := (.bool true)) (w'' := w') ?_ (hK _ _ hI (fun _ _ h => h) rfl)
        clear hK
        simp only [execOp, e32, e34]
        have f32 : a'.tmps[32]?.getD undef = .string z0 := (Array.getD_eq_getD_getElem? ..).symm.trans e32
        have f34 : a'.tmps[34]?.getD undef = .string z0 := (Array.getD_eq_getD_getElem? ..).symm.trans e34
        clear e32 e34
        first | rfl | (go_simp <;> exact IntWalk.i64_in _ (by omega))
      · intro a' w' K hI hd hq hK
        have e30 : a'.eval (.tmp 30) = (.bool true) := (hd 11 30 (by kernel_rfl))
        have e35 : a'.eval (.tmp 35) = (.bool true) := (hd 16 35 (by kernel_rfl))
        clear hd hq
        refine op_value (wanted_free _ _ (by rfl)) (v := (.bool true)) (w'' := w') ?_ (hK _ _ hI (fun _ _ h => h) rfl)
        clear hK
        simp only [execOp, e30, e35]
        have f30 : a'.tmps[30]?.getD undef = (.bool true) := (Array.getD_eq_getD_getElem? ..).symm.trans e30
        have f35 : a'.tmps[35]?.getD undef = (.bool true) := (Array.getD_eq_getD_getElem? ..).symm.trans e35
        clear e30 e35
        first | rfl | (go_simp <;> exact IntWalk.i64_in _ (by omega))
      · intro a' w' K hI hd hq hK
        have e36 : a'.eval (.tmp 36) = (.bool true) := (hd 17 36 (by kernel_rfl))
        clear hd hq
        refine op_value (wanted_free _ _ (by rfl)) (v := (.bool true)) (w'' := w') ?_ (hK _ _ hI (fun _ _ h => h) rfl)
        clear hK
        simp only [execOp, e36]
        have f36 : a'.tmps[36]?.getD undef = (.bool true) := (Array.getD_eq_getD_getElem? ..).symm.trans e36
        clear e36
        first | rfl | (go_simp <;> exact IntWalk.i64_in _ (by omega))
      · intro a' w' K hI hd hq hK
        have hg := hd 18 37 (by kernel_rfl)
        have e0 : a'.eval (.tmp 0) = .slice A l1.length c := (hq 0 (by kernel_rfl)).trans rfl
        clear hd hq
        refine op_value (wanted_on _ a' 18 37 true (by rfl) (by rfl) hg) (v := .slice A l1.length c) (w'' := w') ?_ (hK _ _ hI (fun _ _ h => h) rfl)
        clear hK
        simp only [execOp, e0]
        have f0 : a'.tmps[0]?.getD undef = .slice A l1.length c := (Array.getD_eq_getD_getElem? ..).symm.trans e0
        clear e0
        first | rfl | (go_simp <;> exact IntWalk.i64_in _ (by omega))
      · intro a' w' K hI hd hq hK
        have hg := hd 18 37 (by kernel_rfl)
        have e38 : a'.eval (.tmp 38) = .slice A l1.length c := (hd 19 38 (by kernel_rfl))
        clear hd hq
        refine op_value (wanted_on _ a' 18 37 true (by rfl) (by rfl) hg) (v := .string z1) (w'' := w') ?_ (hK _ _ hI (fun _ _ h => h) rfl)
        simp only [execOp, e38]
        have hst := run_string_RB (P := Try.prog) w' 22 9 5 Try.underlying22 Try.underlying5 Try.underlying9 A l1.length c l1 rfl (HW.out.below hI)
        rw [← EZ1.out] at hst
        clear e38 hK
        go_simp
      · intro a' w' K hI hd hq hK
        have hg := hd 18 37 (by kernel_rfl)
        have e39 : a'.eval (.tmp 39) = .string z1 := (hd 20 39 (by kernel_rfl))
        clear hd hq
        refine op_call #[.string z1] (wanted_on _ a' 18 37 true (by rfl) (by rfl) hg) rfl Try.func19 (by kernel_rfl) rfl (by simp [e39]) ?_
        refine (hash_any z1 w' (by omega)).mono ?_
        rintro e w8 ⟨rfl, hb⟩
        exact ⟨_, rfl, hK _ _ (below_below hI hI.size hb) (fun j u => by match j with | 0 | 1 | 2 | 3 | 4 | 5 | 6 | 7 | 8 | 9 | 10 | 11 | 12 | 13 | 14 | 15 | 16 | 17 | 18 | 19 | 20 | 21 | 22 | 23 | 24 | 25 | 26 | 27 | 28 | 29 | 30 | 31 | 32 | 33 | 34 | 35 => exact fun h => h | _ + 36 => exact fun _ => trivial) rfl⟩
      · intro a' w' K hI hd hq hK
        have hg := hd 18 37 (by kernel_rfl)
        have e0 : a'.eval (.tmp 0) = .slice A l1.length c := (hq 0 (by kernel_rfl)).trans rfl
        clear hd hq
        refine op_value (wanted_on _ a' 18 37 true (by rfl) (by rfl) hg) (v := .slice A l1.length c) (w'' := w') ?_ (hK _ _ hI (fun _ _ h => h) rfl)
        clear hK
        simp only [execOp, e0]
        have f0 : a'.tmps[0]?.getD undef = .slice A l1.length c := (Array.getD_eq_getD_getElem? ..).symm.trans e0
        clear e0
        first | rfl | (go_simp <;> exact IntWalk.i64_in _ (by omega))
      · intro a' w' K hI hd hq hK
        have hg := hd 18 37 (by kernel_rfl)
        have e41 : a'.eval (.tmp 41) = .slice A l1.length c := (hd 22 41 (by kernel_rfl))
        clear hd hq
        refine op_value (wanted_on _ a' 18 37 true (by rfl) (by rfl) hg) (v := .string z1) (w'' := w') ?_ (hK _ _ hI (fun _ _ h => h) rfl)
        simp only [execOp, e41]
        have hst := run_string_RB (P := Try.prog) w' 22 9 5 Try.underlying22 Try.underlying5 Try.underlying9 A l1.length c l1 rfl (HW.out.below hI)
        rw [← EZ1.out] at hst
        clear e41 hK
        go_simp
      · intro a' w' K hI hd hq hK
        have hg := hd 18 37 (by kernel_rfl)
        have e42 : a'.eval (.tmp 42) = .string z1 := (hd 23 42 (by kernel_rfl))
        clear hd hq
        refine op_call #[.string z1] (wanted_on _ a' 18 37 true (by rfl) (by rfl) hg) rfl Try.func42 (by kernel_rfl) rfl (by simp [e42]) ?_
        refine (refHash_any z1 w' (by omega)).mono ?_
        rintro e w8 ⟨rfl, hb⟩
        exact ⟨_, rfl, hK _ _ (below_below hI hI.size hb) (fun j u => by match j with | 0 | 1 | 2 | 3 | 4 | 5 | 6 | 7 | 8 | 9 | 10 | 11 | 12 | 13 | 14 | 15 | 16 | 17 | 18 | 19 | 20 | 21 | 22 | 23 | 24 | 25 | 26 | 27 | 28 | 29 | 30 | 31 | 32 | 33 | 34 | 35 => exact fun h => h | _ + 36 => exact fun _ => trivial) rfl⟩
      · intro a' w' K hI hd hq hK
        have hg := hd 18 37 (by kernel_rfl)
        have e40 : a'.eval (.tmp 40) = .int .i64 (hashOf z1) := (hd 21 40 (by kernel_rfl))
        have e43 : a'.eval (.tmp 43) = .int .i64 (hashOf z1) := (hd 24 43 (by kernel_rfl))
        clear hd hq
        refine op_value (wanted_on _ a' 18 37 true (by rfl) (by rfl) hg) (v := (.bool true)) (w'' := w') ?_ (hK _ _ hI (fun _ _ h => h) rfl)
        clear hK
        simp only [execOp, e40, e43]
        have f40 : a'.tmps[40]?.getD undef = .int .i64 (hashOf z1) := (Array.getD_eq_getD_getElem? ..).symm.trans e40
        have f43 : a'.tmps[43]?.getD undef = .int .i64 (hashOf z1) := (Array.getD_eq_getD_getElem? ..).symm.trans e43
        clear e40 e43
        first | rfl | (go_simp <;> exact IntWalk.i64_in _ (by omega))
      · intro a' w' K hI hd hq hK
        have e37 : a'.eval (.tmp 37) = (.bool true) := (hd 18 37 (by kernel_rfl))
        have e44 : a'.eval (.tmp 44) = (.bool true) := (hd 25 44 (by kernel_rfl))
        clear hd hq
        refine op_value (wanted_free _ _ (by rfl)) (v := (.bool true)) (w'' := w') ?_ (hK _ _ hI (fun _ _ h => h) rfl)
        clear hK
        simp only [execOp, e37, e44]
        have f37 : a'.tmps[37]?.getD undef = (.bool true) := (Array.getD_eq_getD_getElem? ..).symm.trans e37
        have f44 : a'.tmps[44]?.getD undef = (.bool true) := (Array.getD_eq_getD_getElem? ..).symm.trans e44
        clear e37 e44
        first | rfl | (go_simp <;> exact IntWalk.i64_in _ (by omega))
      · intro a' w' K hI hd hq hK
        have e45 : a'.eval (.tmp 45) = (.bool true) := (hd 26 45 (by kernel_rfl))
        clear hd hq
        refine op_value (wanted_free _ _ (by rfl)) (v := (.bool true)) (w'' := w') ?_ (hK _ _ hI (fun _ _ h => h) rfl)
        clear hK
        simp only [execOp, e45]
        have f45 : a'.tmps[45]?.getD undef = (.bool true) := (Array.getD_eq_getD_getElem? ..).symm.trans e45
        clear e45
        first | rfl | (go_simp <;> exact IntWalk.i64_in _ (by omega))
      · intro a' w' K hI hd hq hK
        have hg := hd 27 46 (by kernel_rfl)
        have e3 : a'.eval (.tmp 3) = .slice (some ⟨w.heap.size, 0, none⟩) (l1.length + 80) (l1.length + 80) := (hq 3 (by kernel_rfl)).trans rfl
        clear hd hq
        refine op_value (wanted_on _ a' 27 46 true (by rfl) (by rfl) hg) (v := .slice (some ⟨w.heap.size, 0, none⟩) (l1.length + 80) (l1.length + 80)) (w'' := w') ?_ (hK _ _ hI (fun _ _ h => h) rfl)
        clear hK
        simp only [execOp, e3]
        have f3 : a'.tmps[3]?.getD undef = .slice (some ⟨w.heap.size, 0, none⟩) (l1.length + 80) (l1.length + 80) := (Array.getD_eq_getD_getElem? ..).symm.trans e3
        clear e3
        first | rfl | (go_simp <;> exact IntWalk.i64_in _ (by omega))
      · intro a' w' K hI hd hq hK
        have hg := hd 27 46 (by kernel_rfl)
        have e0 : a'.eval (.tmp 0) = .slice A l1.length c := (hq 0 (by kernel_rfl)).trans rfl
        clear hd hq
        refine op_value (wanted_on _ a' 27 46 true (by rfl) (by rfl) hg) (v := .slice A l1.length c) (w'' := w') ?_ (hK _ _ hI (fun _ _ h => h) rfl)
        clear hK
        simp only [execOp, e0]
        have f0 : a'.tmps[0]?.getD undef = .slice A l1.length c := (Array.getD_eq_getD_getElem? ..).symm.trans e0
        clear e0
        first | rfl | (go_simp <;> exact IntWalk.i64_in _ (by omega))
      · intro a' w' K hI hd hq hK
        have hg := hd 27 46 (by kernel_rfl)
        have e47 : a'.eval (.tmp 47) = .slice (some ⟨w.heap.size, 0, none⟩) (l1.length + 80) (l1.length + 80) := (hd 28 47 (by kernel_rfl))
        have e48 : a'.eval (.tmp 48) = .slice A l1.length c := (hd 29 48 (by kernel_rfl))
        clear hd hq
        refine op_call #[.slice (some ⟨w.heap.size, 0, none⟩) (l1.length + 80) (l1.length + 80), .slice A l1.length c, .int .u8 165] (wanted_on _ a' 27 46 true (by rfl) (by rfl) hg) rfl Try.func30 (by kernel_rfl) rfl (by simp [e47, e48]; rfl) ?_
        refine (intact165 _ _ l1.length _ _ l1 w' rfl (by omega) (by omega) (HF.out.below hI) (HW.out.below hI)).mono ?_
        rintro e w8 ⟨rfl, hb⟩
        exact ⟨_, rfl, hK _ _ (below_below hI hI.size hb) (fun j u => by match j with | 0 | 1 | 2 | 3 | 4 | 5 | 6 | 7 | 8 | 9 | 10 | 11 | 12 | 13 | 14 | 15 | 16 | 17 | 18 | 19 | 20 | 21 | 22 | 23 | 24 | 25 | 26 | 27 | 28 | 29 | 30 | 31 | 32 | 33 | 34 | 35 => exact fun h => h | _ + 36 => exact fun _ => trivial) rfl⟩
      · intro a' w' K hI hd hq hK
        have e46 : a'.eval (.tmp 46) = (.bool true) := (hd 27 46 (by kernel_rfl))
        have e49 : a'.eval (.tmp 49) = .bool true := (hd 30 49 (by kernel_rfl))
        clear hd hq
        refine op_value (wanted_free _ _ (by rfl)) (v := (.bool true)) (w'' := w') ?_ (hK _ _ hI (fun _ _ h => h) rfl)
        clear hK
        simp only [execOp, e46, e49]
        have f46 : a'.tmps[46]?.getD undef = (.bool true) := (Array.getD_eq_getD_getElem? ..).symm.trans e46
        have f49 : a'.tmps[49]?.getD undef = .bool true := (Array.getD_eq_getD_getElem? ..).symm.trans e49
        clear e46 e49
        first | rfl | (go_simp <;> exact IntWalk.i64_in _ (by omega))
      · intro a' w' K hI hd hq hK
        have e50 : a'.eval (.tmp 50) = (.bool true) := (hd 31 50 (by kernel_rfl))
        clear hd hq
        refine op_value (wanted_free _ _ (by rfl)) (v := (.bool true)) (w'' := w') ?_ (hK _ _ hI (fun _ _ h => h) rfl)
        clear hK
        simp only [execOp, e50]
        have f50 : a'.tmps[50]?.getD undef = (.bool true) := (Array.getD_eq_getD_getElem? ..).symm.trans e50
        clear e50
        first | rfl | (go_simp <;> exact IntWalk.i64_in _ (by omega))
      · intro a' w' K hI hd hq hK
        have hg := hd 32 51 (by kernel_rfl)
        clear hd hq
        refine op_call #[] (wanted_on _ a' 32 51 true (by rfl) (by rfl) hg) rfl Try.func15 (by kernel_rfl) rfl (by simp) ?_
        refine (known2_any w').mono ?_
        rintro e w8 ⟨rfl, hb⟩
        exact ⟨_, rfl, hK _ _ (below_below hI hI.size hb) (fun j u => by match j with | 0 | 1 | 2 | 3 | 4 | 5 | 6 | 7 | 8 | 9 | 10 | 11 | 12 | 13 | 14 | 15 | 16 | 17 | 18 | 19 | 20 | 21 | 22 | 23 | 24 | 25 | 26 | 27 | 28 | 29 | 30 | 31 | 32 | 33 | 34 | 35 => exact fun h => h | _ + 36 => exact fun _ => trivial) rfl⟩
      · intro a' w' K hI hd hq hK
        have e51 : a'.eval (.tmp 51) = (.bool true) := (hd 32 51 (by kernel_rfl))
        have e52 : a'.eval (.tmp 52) = .bool true := (hd 33 52 (by kernel_rfl))
        clear hd hq
        refine op_value (wanted_free _ _ (by rfl)) (v := (.bool true)) (w'' := w') ?_ (hK _ _ hI (fun _ _ h => h) rfl)
        clear hK
        simp only [execOp, e51, e52]
        have f51 : a'.tmps[51]?.getD undef = (.bool true) := (Array.getD_eq_getD_getElem? ..).symm.trans e51
        have f52 : a'.tmps[52]?.getD undef = .bool true := (Array.getD_eq_getD_getElem? ..).symm.trans e52
        clear e51 e52
        first | rfl | (go_simp <;> exact IntWalk.i64_in _ (by omega))
      · intro a' w' K hI hd hq hK
        have e53 : a'.eval (.tmp 53) = (.bool true) := (hd 34 53 (by kernel_rfl))
        clear hd hq
        refine op_value (wanted_free _ _ (by rfl)) (v := (.bool true)) (w'' := w') ?_ (hK _ _ hI (fun _ _ h => h) rfl)
        clear hK
        simp only [execOp, e53]
        have f53 : a'.tmps[53]?.getD undef = (.bool true) := (Array.getD_eq_getD_getElem? ..).symm.trans e53
        clear e53
        first | rfl | (go_simp <;> exact IntWalk.i64_in _ (by omega))
    case fin6 =>
      rintro w' hI _ rfl _ rfl _ rfl _ rfl _ rfl _ rfl _ rfl _ rfl _ rfl _ rfl _ rfl _ rfl _ rfl _ rfl _ rfl _ rfl _ rfl _ rfl _ rfl _ rfl _ rfl _ rfl _ rfl _ rfl _ rfl _ rfl _ rfl _ rfl _ rfl _ rfl _ rfl _ rfl _ rfl _ rfl _ rfl _ rfl
      simp only [Act.put, List.setIfInBounds_toArray, List.set_cons_zero, List.set_cons_succ, FinGoal]
      go_wp2
      go_ret
      exact ⟨rfl, below_below HB3.out HB3.out.size hI⟩
end Go.Proofs.Ytiefgnmekikckaa
