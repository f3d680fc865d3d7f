/-
  The texts Strange, Unlike of this proof in one (what is used of them): what each proves is said at its head. No conditions beyond those that each theorem says.
-/
import Derived.Test.YtjakhemolecbnaaNE4
import Derived.Test.YtjakhemolecbnaaNC

/-
  The walk of the verifier's strange.
-/
section
set_option linter.unusedVariables false
set_option linter.unusedSimpArgs false
namespace Go.Proofs.Ytjakhemolecbnaa
open Go.RowKit

set_option maxRecDepth 100000 in
set_option maxHeartbeats 4000000 in
theorem strange_any (p : Nat) (vA : Option Addr) (vc : Nat) (cs : List Cm) (b : Int × Int × Int) (i : Nat) (at' : Int) (c : Cm) (m : Rm) (w : World) (h : VF w p vA vc cs b) (hc : cs[i]? = some c) (hg : RG w m.A m.groups) (hl : m.groups.length ≤ 100000000) :
    Calls Try.prog 31 #[.pointer (some ⟨p, 0, none⟩), .int .i64 (i : Int), .int .i64 at', .agg m.cells.toArray] w fun e w' => e = .returned (.bool (strangeS cs i c.group m)) ∧ Below w.heap.size w w' := by
  have hbx := box_new w m
  have hb1 : Below w.heap.size w (w.alloc (.cells m.cells.toArray 24)) := (Below.refl _ _).alloc (Nat.le_refl _) _
  obtain ⟨w1, hw1⟩ : ∃ w1, w1 = w.alloc (.cells m.cells.toArray 24) := ⟨_, rfl⟩
  rw [← hw1] at hbx hb1
  obtain ⟨bv, ov, rfl, hp⟩ := (h.below hb1).part hc
  have hi := (List.getElem?_eq_some_iff.1 hc).1
  have i0 : (0 : Int) ≤ (i : Int) := by omega
  have i1 : (i : Int) < (cs.length : Int) := by omega
  have hln := h.len
  have BX := Lib.hid hbx
  have HB1 := Lib.hid hb1
  have HW1 := Lib.hid hw1
  have HV := Lib.hid (h.below hb1)
  have HG := Lib.hid (hg.below hb1)
  have HL := Lib.hid hl
  have HP := Lib.hid hp
  clear hbx hb1 hw1 h hc hg hl hp hi
  obtain ⟨q, hq⟩ : ∃ q, strangeS cs i c.group m = q := ⟨_, rfl⟩
  rw [hq]
  unfold strangeS at hq
  have k0 := BX.out.c0
  have k1 := BX.out.c1
  have k2 := BX.out.c2
  have HST := Lib.hid (show StAt w1 w.heap.size m.tx m.A m.c m.groups from ⟨k1, k2, HG.out⟩)
  clear k1
  obtain ⟨gb, hgb⟩ : ∃ gb, gb = w.heap.size := ⟨_, rfl⟩
  rw [← hgb] at k0 k2 BX HST
  have HGB := Lib.hid hgb
  clear hgb
  have G2 := k2
  by_cases hk : m.kind = 3
  · have hk1 : (m.kind != 3) = false := by simpa using hk
    obtain ⟨q1, hq1⟩ : ∃ q1, decide (c.group ∈ m.groups) = q1 := ⟨_, rfl⟩
    obtain ⟨q2, hq2⟩ : ∃ q2, othersS cs i (strP m.tx m.groups) = q2 := ⟨_, rfl⟩
    rw [hq1, hq2] at hq
    have HQ := Lib.hid (show (!q1 || q2) = q by rw [← hq]; simp [hk])
    have HQ1 := Lib.hid hq1
    have HQ2 := Lib.hid hq2
    clear hk hq hq1 hq2
    go_enter Try.func31, Try.ntmps31
    go_upto_region 1 with fail
    rw [← HW1.out, ← HGB.out]
    go_upto_region 3 with fail
    cases q1 with
    | false =>
      refine region_by (fun W => Below w1.heap.size w1 W) [(fun v _ => v = .pointer (some ⟨gb, 2, none⟩)), (fun v _ => v = .slice m.A m.groups.length m.c), (fun v _ => v = .pointer (some ⟨p, 0, none⟩)), (fun v _ => v = .pointer (some ⟨p, 0, none⟩)), (fun v _ => v = .pointer (some ⟨p, 0, none⟩)), (fun v _ => v = .slice (some ⟨bv, ov, none⟩) cs.length vc), (fun v _ => v = .int .i64 (i : Int)), (fun v _ => v = .pointer (some ⟨bv, ov + i * 6, none⟩)), (fun v _ => v = .pointer (some ⟨bv, ov + i * 6, none⟩)), (fun v _ => v = .int .i64 c.group), fun v _ => v = .bool false, (fun v _ => v = .bool true), (fun v _ => v = .bool true), (fun v _ => v = undef), (fun v _ => v = undef), (fun v _ => v = undef), (fun v _ => v = undef), (fun v _ => v = .bool true), (fun v _ => v = .bool true)] (by kernel_rfl) (by kernel_rfl) (by kernel_rfl) rfl ((Below.refl _ _).drew) ?ok3 ?fin3
      case ok3 =>
        refine ⟨?_, ?_, ?_, ?_, ?_, ?_, ?_, ?_, ?_, ?_, ?_, ?_, ?_, ?_, ?_, ?_, ?_, ?_, ?_, trivial⟩
        · intro a' w' K hI hd hq hK
          have e7 : a'.eval (.tmp 7) = .pointer (some ⟨gb, 0, none⟩) := (hq 7 (by kernel_rfl)).trans rfl
          clear hd hq
          refine op_value (wanted_free _ _ (by rfl)) (v := .pointer (some ⟨gb, 2, none⟩)) (w'' := w') ?_ (hK _ _ hI (fun _ _ h => h) rfl)
          clear hK
          simp only [execOp, e7]
          have f7 : a'.tmps[7]?.getD undef = .pointer (some ⟨gb, 0, none⟩) := (Array.getD_eq_getD_getElem? ..).symm.trans e7
          clear e7
          first | rfl | (go_simp <;> exact IntWalk.i64_in _ (by omega))
        · intro a' w' K hI hd hq hK
          have e12 : a'.eval (.tmp 12) = .pointer (some ⟨gb, 2, none⟩) := (hd 0 12 (by kernel_rfl))
          clear hd hq
          have cx := cell_below hI G2
          refine op_value (wanted_free _ _ (by rfl)) (v := .slice m.A m.groups.length m.c) (w'' := w') ?_ (hK _ _ hI (fun _ _ h => h) rfl)
          clear hK
          simp only [execOp, e12]
          have f12 : a'.tmps[12]?.getD undef = .pointer (some ⟨gb, 2, none⟩) := (Array.getD_eq_getD_getElem? ..).symm.trans e12
          clear e12
          first | rfl | (go_simp <;> exact IntWalk.i64_in _ (by omega))
        · intro a' w' K hI hd hq hK
          have e0 : a'.eval (.tmp 0) = .pointer (some ⟨p, 0, none⟩) := (hq 0 (by kernel_rfl)).trans rfl
          clear hd hq
          refine op_value (wanted_free _ _ (by rfl)) (v := .pointer (some ⟨p, 0, none⟩)) (w'' := w') ?_ (hK _ _ hI (fun _ _ h => h) rfl)
          clear hK
          simp only [execOp, e0]
          have f0 : a'.tmps[0]?.getD undef = .pointer (some ⟨p, 0, none⟩) := (Array.getD_eq_getD_getElem? ..).symm.trans e0
          clear e0
          first | rfl | (go_simp <;> exact IntWalk.i64_in _ (by omega))
        · intro a' w' K hI hd hq hK
          have e14 : a'.eval (.tmp 14) = .pointer (some ⟨p, 0, none⟩) := (hd 2 14 (by kernel_rfl))
          clear hd hq
          refine op_value (wanted_free _ _ (by rfl)) (v := .pointer (some ⟨p, 0, none⟩)) (w'' := w') ?_ (hK _ _ hI (fun _ _ h => h) rfl)
          clear hK
          simp only [execOp, e14]
          have f14 : a'.tmps[14]?.getD undef = .pointer (some ⟨p, 0, none⟩) := (Array.getD_eq_getD_getElem? ..).symm.trans e14
          clear e14
          first | rfl | (go_simp <;> exact IntWalk.i64_in _ (by omega))
        · intro a' w' K hI hd hq hK
          have e15 : a'.eval (.tmp 15) = .pointer (some ⟨p, 0, none⟩) := (hd 3 15 (by kernel_rfl))
          clear hd hq
          refine op_value (wanted_free _ _ (by rfl)) (v := .pointer (some ⟨p, 0, none⟩)) (w'' := w') ?_ (hK _ _ hI (fun _ _ h => h) rfl)
          clear hK
          simp only [execOp, e15]
          have f15 : a'.tmps[15]?.getD undef = .pointer (some ⟨p, 0, none⟩) := (Array.getD_eq_getD_getElem? ..).symm.trans e15
          clear e15
          first | rfl | (go_simp <;> exact IntWalk.i64_in _ (by omega))
        · intro a' w' K hI hd hq hK
          have e16 : a'.eval (.tmp 16) = .pointer (some ⟨p, 0, none⟩) := (hd 4 16 (by kernel_rfl))
          clear hd hq
          have cx := (HV.out.below hI).c0
          refine op_value (wanted_free _ _ (by rfl)) (v := .slice (some ⟨bv, ov, none⟩) cs.length vc) (w'' := w') ?_ (hK _ _ hI (fun _ _ h => h) rfl)
          clear hK
          simp only [execOp, e16]
          have f16 : a'.tmps[16]?.getD undef = .pointer (some ⟨p, 0, none⟩) := (Array.getD_eq_getD_getElem? ..).symm.trans e16
          clear e16
          first | rfl | (go_simp <;> exact IntWalk.i64_in _ (by omega))
        · intro a' w' K hI hd hq hK
          have e1 : a'.eval (.tmp 1) = .int .i64 (i : Int) := (hq 1 (by kernel_rfl)).trans rfl
          clear hd hq
          refine op_value (wanted_free _ _ (by rfl)) (v := .int .i64 (i : Int)) (w'' := w') ?_ (hK _ _ hI (fun _ _ h => h) rfl)
          clear hK
          simp only [execOp, e1]
          have f1 : a'.tmps[1]?.getD undef = .int .i64 (i : Int) := (Array.getD_eq_getD_getElem? ..).symm.trans e1
          clear e1
          first | rfl | (go_simp <;> exact IntWalk.i64_in _ (by omega))
        · intro a' w' K hI hd hq hK
          have e17 : a'.eval (.tmp 17) = .slice (some ⟨bv, ov, none⟩) cs.length vc := (hd 5 17 (by kernel_rfl))
          have e18 : a'.eval (.tmp 18) = .int .i64 (i : Int) := (hd 6 18 (by kernel_rfl))
          clear hd hq
          refine op_value (wanted_free _ _ (by rfl)) (v := .pointer (some ⟨bv, ov + i * 6, none⟩)) (w'' := w') ?_ (hK _ _ hI (fun _ _ h => h) rfl)
          clear hK
          simp only [execOp, e17, e18]
          have f17 : a'.tmps[17]?.getD undef = .slice (some ⟨bv, ov, none⟩) cs.length vc := (Array.getD_eq_getD_getElem? ..).symm.trans e17
          have f18 : a'.tmps[18]?.getD undef = .int .i64 (i : Int) := (Array.getD_eq_getD_getElem? ..).symm.trans e18
          clear e17 e18
          first | rfl | (go_simp <;> exact IntWalk.i64_in _ (by omega))
        · intro a' w' K hI hd hq hK
          have e19 : a'.eval (.tmp 19) = .pointer (some ⟨bv, ov + i * 6, none⟩) := (hd 7 19 (by kernel_rfl))
          clear hd hq
          refine op_value (wanted_free _ _ (by rfl)) (v := .pointer (some ⟨bv, ov + i * 6, none⟩)) (w'' := w') ?_ (hK _ _ hI (fun _ _ h => h) rfl)
          clear hK
          simp only [execOp, e19]
          have f19 : a'.tmps[19]?.getD undef = .pointer (some ⟨bv, ov + i * 6, none⟩) := (Array.getD_eq_getD_getElem? ..).symm.trans e19
          clear e19
          first | rfl | (go_simp <;> exact IntWalk.i64_in _ (by omega))
        · intro a' w' K hI hd hq hK
          have e20 : a'.eval (.tmp 20) = .pointer (some ⟨bv, ov + i * 6, none⟩) := (hd 8 20 (by kernel_rfl))
          clear hd hq
          have cx := (HP.out _ hI).1
          refine op_value (wanted_free _ _ (by rfl)) (v := .int .i64 c.group) (w'' := w') ?_ (hK _ _ hI (fun _ _ h => h) rfl)
          clear hK
          simp only [execOp, e20]
          have f20 : a'.tmps[20]?.getD undef = .pointer (some ⟨bv, ov + i * 6, none⟩) := (Array.getD_eq_getD_getElem? ..).symm.trans e20
          clear e20
          first | rfl | (go_simp <;> exact IntWalk.i64_in _ (by omega))
        · intro a' w' K hI hd hq hK
          have e13 : a'.eval (.tmp 13) = .slice m.A m.groups.length m.c := (hd 1 13 (by kernel_rfl))
          have e21 : a'.eval (.tmp 21) = .int .i64 c.group := (hd 9 21 (by kernel_rfl))
          clear hd hq
          refine op_call #[.slice m.A m.groups.length m.c, .int .i64 c.group] (wanted_free _ _ (by rfl)) rfl Try.func55 (by kernel_rfl) rfl (by simp [e13, e21]) ?_
          refine (contains_any m.A m.groups.length m.c m.groups c.group w' rfl HL.out (HG.out.below hI)).mono ?_
          rw [HQ1.out]
          rintro e w6 ⟨rfl, rfl⟩
          exact ⟨_, rfl, hK _ _ hI (fun _ _ h => h) rfl⟩
        · intro a' w' K hI hd hq hK
          have e22 : a'.eval (.tmp 22) = .bool false := (hd 10 22 (by kernel_rfl))
          clear hd hq
          refine op_value (wanted_free _ _ (by rfl)) (v := .bool true) (w'' := w') ?_ (hK _ _ hI (fun _ _ h => h) rfl)
          clear hK
          simp only [execOp, e22]
          have f22 : a'.tmps[22]?.getD undef = .bool false := (Array.getD_eq_getD_getElem? ..).symm.trans e22
          clear e22
          first | rfl | (go_simp <;> exact IntWalk.i64_in _ (by omega))
        · intro a' w' K hI hd hq hK
          have e23 : a'.eval (.tmp 23) = .bool true := (hd 11 23 (by kernel_rfl))
          clear hd hq
          refine op_value (wanted_free _ _ (by rfl)) (v := .bool true) (w'' := w') ?_ (hK _ _ hI (fun _ _ h => h) rfl)
          clear hK
          simp only [execOp, e23]
          have f23 : a'.tmps[23]?.getD undef = .bool true := (Array.getD_eq_getD_getElem? ..).symm.trans e23
          clear e23
          first | rfl | (go_simp <;> exact IntWalk.i64_in _ (by omega))
        · intro a' w' K hI hd hq hK
          have hg := hd 12 24 (by kernel_rfl)
          rw [if_neg (by rw [wanted_off _ a' 12 24 false (by rfl) (by rfl) hg]; decide)]
          exact hK _ _ hI (fun _ _ h => h) rfl
        · intro a' w' K hI hd hq hK
          have hg := hd 12 24 (by kernel_rfl)
          rw [if_neg (by rw [wanted_off _ a' 12 24 false (by rfl) (by rfl) hg]; decide)]
          exact hK _ _ hI (fun _ _ h => h) rfl
        · intro a' w' K hI hd hq hK
          have hg := hd 12 24 (by kernel_rfl)
          rw [if_neg (by rw [wanted_off _ a' 12 24 false (by rfl) (by rfl) hg]; decide)]
          exact hK _ _ hI (fun _ _ h => h) rfl
        · intro a' w' K hI hd hq hK
          have hg := hd 12 24 (by kernel_rfl)
          rw [if_neg (by rw [wanted_off _ a' 12 24 false (by rfl) (by rfl) hg]; decide)]
          exact hK _ _ hI (fun _ _ h => h) rfl
        · intro a' w' K hI hd hq hK
          have e24 : a'.eval (.tmp 24) = .bool true := (hd 12 24 (by kernel_rfl))
          have e28 : a'.eval (.tmp 28) = undef := (hd 16 28 (by kernel_rfl))
          clear hd hq
          refine op_value (wanted_free _ _ (by rfl)) (v := .bool true) (w'' := w') ?_ (hK _ _ hI (fun _ _ h => h) rfl)
          clear hK
          simp only [execOp, e24, e28]
          have f24 : a'.tmps[24]?.getD undef = .bool true := (Array.getD_eq_getD_getElem? ..).symm.trans e24
          have f28 : a'.tmps[28]?.getD undef = undef := (Array.getD_eq_getD_getElem? ..).symm.trans e28
          clear e24 e28
          first | rfl | (go_simp <;> exact IntWalk.i64_in _ (by omega))
        · intro a' w' K hI hd hq hK
          have e29 : a'.eval (.tmp 29) = .bool true := (hd 17 29 (by kernel_rfl))
          clear hd hq
          refine op_value (wanted_free _ _ (by rfl)) (v := .bool true) (w'' := w') ?_ (hK _ _ hI (fun _ _ h => h) rfl)
          clear hK
          simp only [execOp, e29]
          have f29 : a'.tmps[29]?.getD undef = .bool true := (Array.getD_eq_getD_getElem? ..).symm.trans e29
          clear e29
          first | rfl | (go_simp <;> exact IntWalk.i64_in _ (by omega))
      case fin3 =>
        rintro w' hI _ rfl _ rfl _ rfl _ rfl _ rfl _ rfl _ rfl _ rfl _ rfl _ rfl _ rfl _ rfl _ rfl _ rfl _ rfl _ rfl _ rfl _ rfl _ rfl
        simp only [Act.put, List.setIfInBounds_toArray, List.set_cons_zero, List.set_cons_succ, FinGoal]
        have HI := Lib.hid hI
        clear hI
        go_wp2_with fail
        go_ret
        exact ⟨ret_bool (by rw [← HQ.out]; rfl), below_below HB1.out HB1.out.size HI.out⟩
    | true =>
      refine region_by (fun W => Below w1.heap.size w1 W) [(fun v _ => v = .pointer (some ⟨gb, 2, none⟩)), (fun v _ => v = .slice m.A m.groups.length m.c), (fun v _ => v = .pointer (some ⟨p, 0, none⟩)), (fun v _ => v = .pointer (some ⟨p, 0, none⟩)), (fun v _ => v = .pointer (some ⟨p, 0, none⟩)), (fun v _ => v = .slice (some ⟨bv, ov, none⟩) cs.length vc), (fun v _ => v = .int .i64 (i : Int)), (fun v _ => v = .pointer (some ⟨bv, ov + i * 6, none⟩)), (fun v _ => v = .pointer (some ⟨bv, ov + i * 6, none⟩)), (fun v _ => v = .int .i64 c.group), fun v _ => v = .bool true, (fun v _ => v = .bool false), (fun v _ => v = .bool false), (fun v _ => v = .pointer (some ⟨p, 0, none⟩)), (fun v _ => v = .int .i64 (i : Int)), fun v _ => v = .func (.func 56) #[] #[.pointer (some ⟨gb, 0, none⟩)], fun v _ => v = .bool q2, (fun v _ => v = .bool q2), (fun v _ => v = .bool q2)] (by kernel_rfl) (by kernel_rfl) (by kernel_rfl) rfl ((Below.refl _ _).drew) ?ok3 ?fin3
      case ok3 =>
        refine ⟨?_, ?_, ?_, ?_, ?_, ?_, ?_, ?_, ?_, ?_, ?_, ?_, ?_, ?_, ?_, ?_, ?_, ?_, ?_, trivial⟩
        · intro a' w' K hI hd hq hK
          have e7 : a'.eval (.tmp 7) = .pointer (some ⟨gb, 0, none⟩) := (hq 7 (by kernel_rfl)).trans rfl
          clear hd hq
          refine op_value (wanted_free _ _ (by rfl)) (v := .pointer (some ⟨gb, 2, none⟩)) (w'' := w') ?_ (hK _ _ hI (fun _ _ h => h) rfl)
          clear hK
          simp only [execOp, e7]
          have f7 : a'.tmps[7]?.getD undef = .pointer (some ⟨gb, 0, none⟩) := (Array.getD_eq_getD_getElem? ..).symm.trans e7
          clear e7
          first | rfl | (go_simp <;> exact IntWalk.i64_in _ (by omega))
        · intro a' w' K hI hd hq hK
          have e12 : a'.eval (.tmp 12) = .pointer (some ⟨gb, 2, none⟩) := (hd 0 12 (by kernel_rfl))
          clear hd hq
          have cx := cell_below hI G2
          refine op_value (wanted_free _ _ (by rfl)) (v := .slice m.A m.groups.length m.c) (w'' := w') ?_ (hK _ _ hI (fun _ _ h => h) rfl)
          clear hK
          simp only [execOp, e12]
          have f12 : a'.tmps[12]?.getD undef = .pointer (some ⟨gb, 2, none⟩) := (Array.getD_eq_getD_getElem? ..).symm.trans e12
          clear e12
          first | rfl | (go_simp <;> exact IntWalk.i64_in _ (by omega))
        · intro a' w' K hI hd hq hK
          have e0 : a'.eval (.tmp 0) = .pointer (some ⟨p, 0, none⟩) := (hq 0 (by kernel_rfl)).trans rfl
          clear hd hq
          refine op_value (wanted_free _ _ (by rfl)) (v := .pointer (some ⟨p, 0, none⟩)) (w'' := w') ?_ (hK _ _ hI (fun _ _ h => h) rfl)
          clear hK
          simp only [execOp, e0]
          have f0 : a'.tmps[0]?.getD undef = .pointer (some ⟨p, 0, none⟩) := (Array.getD_eq_getD_getElem? ..).symm.trans e0
          clear e0
          first | rfl | (go_simp <;> exact IntWalk.i64_in _ (by omega))
        · intro a' w' K hI hd hq hK
          have e14 : a'.eval (.tmp 14) = .pointer (some ⟨p, 0, none⟩) := (hd 2 14 (by kernel_rfl))
          clear hd hq
          refine op_value (wanted_free _ _ (by rfl)) (v := .pointer (some ⟨p, 0, none⟩)) (w'' := w') ?_ (hK _ _ hI (fun _ _ h => h) rfl)
          clear hK
          simp only [execOp, e14]
          have f14 : a'.tmps[14]?.getD undef = .pointer (some ⟨p, 0, none⟩) := (Array.getD_eq_getD_getElem? ..).symm.trans e14
          clear e14
          first | rfl | (go_simp <;> exact IntWalk.i64_in _ (by omega))
        · intro a' w' K hI hd hq hK
          have e15 : a'.eval (.tmp 15) = .pointer (some ⟨p, 0, none⟩) := (hd 3 15 (by kernel_rfl))
          clear hd hq
          refine op_value (wanted_free _ _ (by rfl)) (v := .pointer (some ⟨p, 0, none⟩)) (w'' := w') ?_ (hK _ _ hI (fun _ _ h => h) rfl)
          clear hK
          simp only [execOp, e15]
          have f15 : a'.tmps[15]?.getD undef = .pointer (some ⟨p, 0, none⟩) := (Array.getD_eq_getD_getElem? ..).symm.trans e15
          clear e15
          first | rfl | (go_simp <;> exact IntWalk.i64_in _ (by omega))
        · intro a' w' K hI hd hq hK
          have e16 : a'.eval (.tmp 16) = .pointer (some ⟨p, 0, none⟩) := (hd 4 16 (by kernel_rfl))
          clear hd hq
          have cx := (HV.out.below hI).c0
          refine op_value (wanted_free _ _ (by rfl)) (v := .slice (some ⟨bv, ov, none⟩) cs.length vc) (w'' := w') ?_ (hK _ _ hI (fun _ _ h => h) rfl)
          clear hK
          simp only [execOp, e16]
          have f16 : a'.tmps[16]?.getD undef = .pointer (some ⟨p, 0, none⟩) := (Array.getD_eq_getD_getElem? ..).symm.trans e16
          clear e16
          first | rfl | (go_simp <;> exact IntWalk.i64_in _ (by omega))
        · intro a' w' K hI hd hq hK
          have e1 : a'.eval (.tmp 1) = .int .i64 (i : Int) := (hq 1 (by kernel_rfl)).trans rfl
          clear hd hq
          refine op_value (wanted_free _ _ (by rfl)) (v := .int .i64 (i : Int)) (w'' := w') ?_ (hK _ _ hI (fun _ _ h => h) rfl)
          clear hK
          simp only [execOp, e1]
          have f1 : a'.tmps[1]?.getD undef = .int .i64 (i : Int) := (Array.getD_eq_getD_getElem? ..).symm.trans e1
          clear e1
          first | rfl | (go_simp <;> exact IntWalk.i64_in _ (by omega))
        · intro a' w' K hI hd hq hK
          have e17 : a'.eval (.tmp 17) = .slice (some ⟨bv, ov, none⟩) cs.length vc := (hd 5 17 (by kernel_rfl))
          have e18 : a'.eval (.tmp 18) = .int .i64 (i : Int) := (hd 6 18 (by kernel_rfl))
          clear hd hq
          refine op_value (wanted_free _ _ (by rfl)) (v := .pointer (some ⟨bv, ov + i * 6, none⟩)) (w'' := w') ?_ (hK _ _ hI (fun _ _ h => h) rfl)
          clear hK
          simp only [execOp, e17, e18]
          have f17 : a'.tmps[17]?.getD undef = .slice (some ⟨bv, ov, none⟩) cs.length vc := (Array.getD_eq_getD_getElem? ..).symm.trans e17
          have f18 : a'.tmps[18]?.getD undef = .int .i64 (i : Int) := (Array.getD_eq_getD_getElem? ..).symm.trans e18
          clear e17 e18
          first | rfl | (go_simp <;> exact IntWalk.i64_in _ (by omega))
        · intro a' w' K hI hd hq hK
          have e19 : a'.eval (.tmp 19) = .pointer (some ⟨bv, ov + i * 6, none⟩) := (hd 7 19 (by kernel_rfl))
          clear hd hq
          refine op_value (wanted_free _ _ (by rfl)) (v := .pointer (some ⟨bv, ov + i * 6, none⟩)) (w'' := w') ?_ (hK _ _ hI (fun _ _ h => h) rfl)
          clear hK
          simp only [execOp, e19]
          have f19 : a'.tmps[19]?.getD undef = .pointer (some ⟨bv, ov + i * 6, none⟩) := (Array.getD_eq_getD_getElem? ..).symm.trans e19
          clear e19
          first | rfl | (go_simp <;> exact IntWalk.i64_in _ (by omega))
        · intro a' w' K hI hd hq hK
          have e20 : a'.eval (.tmp 20) = .pointer (some ⟨bv, ov + i * 6, none⟩) := (hd 8 20 (by kernel_rfl))
          clear hd hq
          have cx := (HP.out _ hI).1
          refine op_value (wanted_free _ _ (by rfl)) (v := .int .i64 c.group) (w'' := w') ?_ (hK _ _ hI (fun _ _ h => h) rfl)
          clear hK
          simp only [execOp, e20]
          have f20 : a'.tmps[20]?.getD undef = .pointer (some ⟨bv, ov + i * 6, none⟩) := (Array.getD_eq_getD_getElem? ..).symm.trans e20
          clear e20
          first | rfl | (go_simp <;> exact IntWalk.i64_in _ (by omega))
        · intro a' w' K hI hd hq hK
          have e13 : a'.eval (.tmp 13) = .slice m.A m.groups.length m.c := (hd 1 13 (by kernel_rfl))
          have e21 : a'.eval (.tmp 21) = .int .i64 c.group := (hd 9 21 (by kernel_rfl))
          clear hd hq
          refine op_call #[.slice m.A m.groups.length m.c, .int .i64 c.group] (wanted_free _ _ (by rfl)) rfl Try.func55 (by kernel_rfl) rfl (by simp [e13, e21]) ?_
          refine (contains_any m.A m.groups.length m.c m.groups c.group w' rfl HL.out (HG.out.below hI)).mono ?_
          rw [HQ1.out]
          rintro e w6 ⟨rfl, rfl⟩
          exact ⟨_, rfl, hK _ _ hI (fun _ _ h => h) rfl⟩
        · intro a' w' K hI hd hq hK
          have e22 : a'.eval (.tmp 22) = .bool true := (hd 10 22 (by kernel_rfl))
          clear hd hq
          refine op_value (wanted_free _ _ (by rfl)) (v := .bool false) (w'' := w') ?_ (hK _ _ hI (fun _ _ h => h) rfl)
          clear hK
          simp only [execOp, e22]
          have f22 : a'.tmps[22]?.getD undef = .bool true := (Array.getD_eq_getD_getElem? ..).symm.trans e22
          clear e22
          first | rfl | (go_simp <;> exact IntWalk.i64_in _ (by omega))
        · intro a' w' K hI hd hq hK
          have e23 : a'.eval (.tmp 23) = .bool false := (hd 11 23 (by kernel_rfl))
          clear hd hq
          refine op_value (wanted_free _ _ (by rfl)) (v := .bool false) (w'' := w') ?_ (hK _ _ hI (fun _ _ h => h) rfl)
          clear hK
          simp only [execOp, e23]
          have f23 : a'.tmps[23]?.getD undef = .bool false := (Array.getD_eq_getD_getElem? ..).symm.trans e23
          clear e23
          first | rfl | (go_simp <;> exact IntWalk.i64_in _ (by omega))
        · intro a' w' K hI hd hq hK
          have hg := hd 12 24 (by kernel_rfl)
          have e0 : a'.eval (.tmp 0) = .pointer (some ⟨p, 0, none⟩) := (hq 0 (by kernel_rfl)).trans rfl
          clear hd hq
          refine op_value (wanted_on _ a' 12 24 false (by rfl) (by rfl) hg) (v := .pointer (some ⟨p, 0, none⟩)) (w'' := w') ?_ (hK _ _ hI (fun _ _ h => h) rfl)
          clear hK
          simp only [execOp, e0]
          have f0 : a'.tmps[0]?.getD undef = .pointer (some ⟨p, 0, none⟩) := (Array.getD_eq_getD_getElem? ..).symm.trans e0
          clear e0
          first | rfl | (go_simp <;> exact IntWalk.i64_in _ (by omega))
        · intro a' w' K hI hd hq hK
          have hg := hd 12 24 (by kernel_rfl)
          have e1 : a'.eval (.tmp 1) = .int .i64 (i : Int) := (hq 1 (by kernel_rfl)).trans rfl
          clear hd hq
          refine op_value (wanted_on _ a' 12 24 false (by rfl) (by rfl) hg) (v := .int .i64 (i : Int)) (w'' := w') ?_ (hK _ _ hI (fun _ _ h => h) rfl)
          clear hK
          simp only [execOp, e1]
          have f1 : a'.tmps[1]?.getD undef = .int .i64 (i : Int) := (Array.getD_eq_getD_getElem? ..).symm.trans e1
          clear e1
          first | rfl | (go_simp <;> exact IntWalk.i64_in _ (by omega))
        · intro a' w' K hI hd hq hK
          have hg := hd 12 24 (by kernel_rfl)
          have e7 : a'.eval (.tmp 7) = .pointer (some ⟨gb, 0, none⟩) := (hq 7 (by kernel_rfl)).trans rfl
          clear hd hq
          refine op_makeFunc (.func 56) #[] #[.tmp 7] (wanted_on _ a' 12 24 false (by rfl) (by rfl) hg) rfl (hK _ _ hI (fun _ _ h => h) ?_)
          show Value.func _ _ _ = _
          simp only [List.map_toArray, List.map_cons, List.map_nil, e7]
        · intro a' w' K hI hd hq hK
          have hg := hd 12 24 (by kernel_rfl)
          have e25 : a'.eval (.tmp 25) = .pointer (some ⟨p, 0, none⟩) := (hd 13 25 (by kernel_rfl))
          have e26 : a'.eval (.tmp 26) = .int .i64 (i : Int) := (hd 14 26 (by kernel_rfl))
          have e27 : a'.eval (.tmp 27) = .func (.func 56) #[] #[.pointer (some ⟨gb, 0, none⟩)] := (hd 15 27 (by kernel_rfl))
          clear hd hq
          refine op_call #[.pointer (some ⟨p, 0, none⟩), .int .i64 (i : Int), .func (.func 56) #[] #[.pointer (some ⟨gb, 0, none⟩)]] (wanted_on _ a' 12 24 false (by rfl) (by rfl) hg) rfl Try.func54 (by kernel_rfl) rfl (by simp [e25, e26, e27]) ?_
          refine (othersSt_any p _ vc cs b (i : Int) gb m.tx m.A m.c m.groups w' (HV.out.below hI) ((HST.out).below hI)).mono ?_
          rw [HQ2.out]
          rintro e w6 ⟨rfl, hb6⟩
          exact ⟨_, rfl, hK _ _ (below_below hI hI.size hb6) (fun j u => by match j with | 0 | 1 | 2 | 3 | 4 | 5 | 6 | 7 | 8 | 9 | 10 | 11 | 12 | 13 | 14 | 15 | 16 | 17 | 18 => exact fun h => h | _ + 19 => exact fun _ => trivial) rfl⟩
        · intro a' w' K hI hd hq hK
          have e24 : a'.eval (.tmp 24) = .bool false := (hd 12 24 (by kernel_rfl))
          have e28 : a'.eval (.tmp 28) = .bool q2 := (hd 16 28 (by kernel_rfl))
          clear hd hq
          refine op_value (wanted_free _ _ (by rfl)) (v := .bool q2) (w'' := w') ?_ (hK _ _ hI (fun _ _ h => h) rfl)
          clear hK
          simp only [execOp, e24, e28]
          have f24 : a'.tmps[24]?.getD undef = .bool false := (Array.getD_eq_getD_getElem? ..).symm.trans e24
          have f28 : a'.tmps[28]?.getD undef = .bool q2 := (Array.getD_eq_getD_getElem? ..).symm.trans e28
          clear e24 e28
          first | rfl | (go_simp <;> exact IntWalk.i64_in _ (by omega))
        · intro a' w' K hI hd hq hK
          have e29 : a'.eval (.tmp 29) = .bool q2 := (hd 17 29 (by kernel_rfl))
          clear hd hq
          refine op_value (wanted_free _ _ (by rfl)) (v := .bool q2) (w'' := w') ?_ (hK _ _ hI (fun _ _ h => h) rfl)
          clear hK
          simp only [execOp, e29]
          have f29 : a'.tmps[29]?.getD undef = .bool q2 := (Array.getD_eq_getD_getElem? ..).symm.trans e29
          clear e29
          first | rfl | (go_simp <;> exact IntWalk.i64_in _ (by omega))
      case fin3 =>
        rintro w' hI _ rfl _ rfl _ rfl _ rfl _ rfl _ rfl _ rfl _ rfl _ rfl _ rfl _ rfl _ rfl _ rfl _ rfl _ rfl _ rfl _ rfl _ rfl _ rfl
        simp only [Act.put, List.setIfInBounds_toArray, List.set_cons_zero, List.set_cons_succ, FinGoal]
        have HI := Lib.hid hI
        clear hI
        go_wp2_with fail
        go_ret
        exact ⟨ret_bool (by rw [← HQ.out]; rfl), below_below HB1.out HB1.out.size HI.out⟩
  · have hk1 : (m.kind != 3) = true := by simpa using hk
    have HQQ := Lib.hid (show false = q by rw [← hq]; simp [hk])
    have Bw1 := Lib.hid (Below.refl w1.heap.size w1)
    clear hk hq
    go_enter Try.func31, Try.ntmps31
    go_upto_region 1 with fail
    rw [← HW1.out, ← HGB.out]
    go_wp2_with fail
    go_ret
    exact ⟨ret_bool HQQ.out, below_below HB1.out HB1.out.size Bw1.out⟩

end Go.Proofs.Ytjakhemolecbnaa
end

/-
  The walk of unlike.
-/
section
set_option linter.unusedVariables false
set_option linter.unusedSimpArgs false
namespace Go.Proofs.Ytjakhemolecbnaa
open Go.RowKit

/-- Where two rows part. -/
def unlikeS {α : Type} [DecidableEq α] : List α → List α → Nat
  | a :: l, b :: m => if a = b then unlikeS l m + 1 else 0
  | _, _ => 0
theorem unlikeS_eq {α : Type} [DecidableEq α] : ∀ (i : Nat) (M1 M2 : List α), M1.take i = M2.take i → i ≤ M1.length → i ≤ M2.length → (∀ (h1 : i < M1.length) (h2 : i < M2.length), M1[i] ≠ M2[i]) → unlikeS M1 M2 = i
  | 0, [], _, _, _, _, _ => by unfold unlikeS; rfl
  | 0, _ :: _, [], _, _, _, _ => by unfold unlikeS; rfl
  | 0, a :: l, b :: m, _, _, _, h => by
    unfold unlikeS
    exact if_neg (h (by simp) (by simp))
  | i + 1, [], _, _, h, _, _ => absurd h (by simp)
  | i + 1, _ :: _, [], _, _, h, _ => absurd h (by simp)
  | i + 1, a :: l, b :: m, ht, h1, h2, hn => by
    simp only [List.take_succ_cons, List.cons.injEq] at ht
    unfold unlikeS
    rw [if_pos ht.1, unlikeS_eq i l m ht.2 (by simpa using h1) (by simpa using h2) (fun a b => hn (by simpa using a) (by simpa using b))]

set_option maxRecDepth 100000 in
set_option maxHeartbeats 8000000 in
theorem unlike_any (A1 A2 : Option Addr) (n1 c1 n2 c2 : Nat) (M1 M2 : List (List UInt8 × List UInt8)) (w : World) (hl1 : M1.length = n1) (hl2 : M2.length = n2) (hn1 : n1 ≤ 100000) (hn2 : n2 ≤ 100000)
    (hh1 : ∀ x ∈ M1, x.2.length = 32) (hh2 : ∀ x ∈ M2, x.2.length = 32) (ht1 : ∀ x ∈ M1, x.1.length ≤ 1000000) (ht2 : ∀ x ∈ M2, x.1.length ≤ 1000000) (hr1 : RC w A1 (lv M1)) (hr2 : RC w A2 (lv M2)) :
    Calls Try.prog 61 #[.slice A1 n1 c1, .slice A2 n2 c2] w fun e w' => e = .returned (.int .i64 (unlikeS M1 M2 : Nat)) ∧ Below w.heap.size w w' := by
  subst hl1
  subst hl2
  obtain ⟨R, eR⟩ : ∃ R, R = unlikeS M1 M2 := ⟨_, rfl⟩
  rw [← eR]
  have ER := Lib.hid eR
  have H1 := Lib.hid hr1
  have H2 := Lib.hid hr2
  have HH1 := Lib.hid hh1
  have HH2 := Lib.hid hh2
  have HT1 := Lib.hid ht1
  have HT2 := Lib.hid ht2
  clear eR hr1 hr2 hh1 hh2 ht1 ht2
  go_enter Try.func61, Try.ntmps61
  go_wp2_with fail
  go_loopg [5] M1.length (fun k s5 wr => ∃ i : Nat, i ≤ M1.length ∧ i ≤ M2.length ∧ k = M1.length - i ∧ s5 = .int .i64 (i : Int) ∧ M1.take i = M2.take i ∧ Below w.heap.size w wr)
  case atStart => exact ⟨0, Nat.zero_le _, Nat.zero_le _, by omega, rfl, rfl, Below.refl _ _⟩
  case round =>
    obtain ⟨i, hi1, hi2, hk, rfl, heq, hb⟩ := hrel
    have HK := Lib.hid hk
    have HB := Lib.hid hb
    have HEQ := Lib.hid heq
    clear hk hb heq
    by_cases hlt1 : i < M1.length
    · by_cases hlt2 : i < M2.length
      · obtain ⟨b1, o1, rfl, e1⟩ := H1.out.parts (by rw [lv_length M1 HH1.out]; omega)
        obtain ⟨b2, o2, rfl, e2⟩ := H2.out.parts (by rw [lv_length M2 HH2.out]; omega)
        have RG1 := Lib.hid (lk_range HH1.out (fun j u hj => cell_below HB.out.drew (e1 j u hj)) i hlt1)
        have RG2 := Lib.hid (lk_range HH2.out (fun j u hj => cell_below HB.out.drew (e2 j u hj)) i hlt2)
        have hx1 := HH1.out _ (List.getElem_mem hlt1)
        have hx2 := HH2.out _ (List.getElem_mem hlt2)
        have HQ := Lib.hid (fun W => eqLk M1[i] M2[i] (HT1.out _ (List.getElem_mem hlt1)) (HT2.out _ (List.getElem_mem hlt2)) hx1 hx2 W)
        have t1 := List.take_succ_eq_append_getElem hlt1
        have t2 := List.take_succ_eq_append_getElem hlt2
        obtain ⟨q, eq⟩ : ∃ q, q = decide (M1[i] = M2[i]) := ⟨_, rfl⟩
        rw [← eq] at HQ
        have HE1 := Lib.hid (show q = true → M1.take (i + 1) = M2.take (i + 1) by
          intro h
          rw [t1, t2, HEQ.out, of_decide_eq_true (eq.symm.trans h)])
        have HE2 := Lib.hid (show q = false → R = i from fun h => ER.out.trans (unlikeS_eq i M1 M2 HEQ.out hi1 hi2 fun _ _ => of_decide_eq_false (eq.symm.trans h)))
        have il1 : (Try.prog.info? 92).map (·.size) = some (lk M1[i]).length := by rw [lk_length _ hx1]; exact info33
        have il2 : (Try.prog.info? 92).map (·.size) = some (lk M2[i]).length := by rw [lk_length _ hx2]; exact info33
        obtain ⟨x1, ex1⟩ : ∃ x1, x1 = lk M1[i] := ⟨_, rfl⟩
        obtain ⟨x2, ex2⟩ : ∃ x2, x2 = lk M2[i] := ⟨_, rfl⟩
        rw [← ex1] at RG1 il1 HQ
        rw [← ex2] at RG2 il2 HQ
        have IL1 := Lib.hid il1
        have IL2 := Lib.hid il2
        have hi0 : (0 : Int) ≤ (i : Int) := by omega
        have hi1' : (i : Int) < (M1.length : Int) := by omega
        have hi2' : (i : Int) < (M2.length : Int) := by omega
        have HLT1 := Lib.hid hlt1
        have HLT2 := Lib.hid hlt2
        clear e1 e2 hx1 hx2 t1 t2 eq il1 il2 ex1 ex2 hlt1 hi1 hi2 hlt2
        go_upto_region 2 with fail
        refine region_by (fun W => W = wr.drew) [(fun v _ => v = .int .i64 (i : Int)), (fun v _ => v = .slice (some ⟨b1, o1, none⟩) M1.length c1), (fun v _ => v = .int .i64 (M1.length : Int)), (fun v _ => v = .bool true), (fun v _ => v = .bool true), (fun v _ => v = .int .i64 (i : Int)), (fun v _ => v = .slice (some ⟨b2, o2, none⟩) M2.length c2), (fun v _ => v = .int .i64 (M2.length : Int)), (fun v _ => v = .bool true), (fun v _ => v = .bool true), (fun v _ => v = .bool true), (fun v _ => v = .slice (some ⟨b1, o1, none⟩) M1.length c1), (fun v _ => v = .int .i64 (i : Int)), (fun v _ => v = .pointer (some ⟨b1, o1 + i * 33, none⟩)), fun v _ => v = .agg x1.toArray, (fun v _ => v = .slice (some ⟨b2, o2, none⟩) M2.length c2), (fun v _ => v = .int .i64 (i : Int)), (fun v _ => v = .pointer (some ⟨b2, o2 + i * 33, none⟩)), fun v _ => v = .agg x2.toArray, fun v _ => v = .bool q, (fun v _ => v = .bool q)] (by kernel_rfl) (by kernel_rfl) (by kernel_rfl) rfl (rfl) ?ok2 ?fin2
        case ok2 =>
          refine ⟨?_, ?_, ?_, ?_, ?_, ?_, ?_, ?_, ?_, ?_, ?_, ?_, ?_, ?_, ?_, ?_, ?_, ?_, ?_, ?_, ?_, trivial⟩
          · intro a' w' K hI hd hq hK
            have e5 : a'.eval (.tmp 5) = .int .i64 (i : Int) := (hq 5 (by kernel_rfl)).trans rfl
            clear hd hq
            refine op_value (wanted_free _ _ (by rfl)) (v := .int .i64 (i : Int)) (w'' := w') ?_ (hK _ _ hI (fun _ _ h => h) rfl)
            clear hK
            simp only [execOp, e5]
            have f5 : a'.tmps[5]?.getD undef = .int .i64 (i : Int) := (Array.getD_eq_getD_getElem? ..).symm.trans e5
            clear e5
            first | rfl | (go_simp <;> exact IntWalk.i64_in _ (by omega))
          · intro a' w' K hI hd hq hK
            have e0 : a'.eval (.tmp 0) = .slice (some ⟨b1, o1, none⟩) M1.length c1 := (hq 0 (by kernel_rfl)).trans rfl
            clear hd hq
            refine op_value (wanted_free _ _ (by rfl)) (v := .slice (some ⟨b1, o1, none⟩) M1.length c1) (w'' := w') ?_ (hK _ _ hI (fun _ _ h => h) rfl)
            clear hK
            simp only [execOp, e0]
            have f0 : a'.tmps[0]?.getD undef = .slice (some ⟨b1, o1, none⟩) M1.length c1 := (Array.getD_eq_getD_getElem? ..).symm.trans e0
            clear e0
            first | rfl | (go_simp <;> exact IntWalk.i64_in _ (by omega))
          · intro a' w' K hI hd hq hK
            have e7 : a'.eval (.tmp 7) = .slice (some ⟨b1, o1, none⟩) M1.length c1 := (hd 1 7 (by kernel_rfl))
            clear hd hq
            refine op_value (wanted_free _ _ (by rfl)) (v := .int .i64 (M1.length : Int)) (w'' := w') ?_ (hK _ _ hI (fun _ _ h => h) rfl)
            clear hK
            simp only [execOp, e7]
            have f7 : a'.tmps[7]?.getD undef = .slice (some ⟨b1, o1, none⟩) M1.length c1 := (Array.getD_eq_getD_getElem? ..).symm.trans e7
            clear e7
            first | rfl | (go_simp <;> exact IntWalk.i64_in _ (by omega))
          · intro a' w' K hI hd hq hK
            have e6 : a'.eval (.tmp 6) = .int .i64 (i : Int) := (hd 0 6 (by kernel_rfl))
            have e8 : a'.eval (.tmp 8) = .int .i64 (M1.length : Int) := (hd 2 8 (by kernel_rfl))
            clear hd hq
            refine op_value (wanted_free _ _ (by rfl)) (v := .bool true) (w'' := w') ?_ (hK _ _ hI (fun _ _ h => h) rfl)
            clear hK
            simp only [execOp, e6, e8]
            have f6 : a'.tmps[6]?.getD undef = .int .i64 (i : Int) := (Array.getD_eq_getD_getElem? ..).symm.trans e6
            have f8 : a'.tmps[8]?.getD undef = .int .i64 (M1.length : Int) := (Array.getD_eq_getD_getElem? ..).symm.trans e8
            clear e6 e8
            first | rfl | (go_simp <;> exact IntWalk.i64_in _ (by omega))
          · intro a' w' K hI hd hq hK
            have e9 : a'.eval (.tmp 9) = .bool true := (hd 3 9 (by kernel_rfl))
            clear hd hq
            refine op_value (wanted_free _ _ (by rfl)) (v := .bool true) (w'' := w') ?_ (hK _ _ hI (fun _ _ h => h) rfl)
            clear hK
            simp only [execOp, e9]
            have f9 : a'.tmps[9]?.getD undef = .bool true := (Array.getD_eq_getD_getElem? ..).symm.trans e9
            clear e9
            first | rfl | (go_simp <;> exact IntWalk.i64_in _ (by omega))
          · intro a' w' K hI hd hq hK
            have hg := hd 4 10 (by kernel_rfl)
            have e5 : a'.eval (.tmp 5) = .int .i64 (i : Int) := (hq 5 (by kernel_rfl)).trans rfl
            clear hd hq
            refine op_value (wanted_on _ a' 4 10 true (by rfl) (by rfl) hg) (v := .int .i64 (i : Int)) (w'' := w') ?_ (hK _ _ hI (fun _ _ h => h) rfl)
            clear hK
            simp only [execOp, e5]
            have f5 : a'.tmps[5]?.getD undef = .int .i64 (i : Int) := (Array.getD_eq_getD_getElem? ..).symm.trans e5
            clear e5
            first | rfl | (go_simp <;> exact IntWalk.i64_in _ (by omega))
          · intro a' w' K hI hd hq hK
            have hg := hd 4 10 (by kernel_rfl)
            have e1 : a'.eval (.tmp 1) = .slice (some ⟨b2, o2, none⟩) M2.length c2 := (hq 1 (by kernel_rfl)).trans rfl
            clear hd hq
            refine op_value (wanted_on _ a' 4 10 true (by rfl) (by rfl) hg) (v := .slice (some ⟨b2, o2, none⟩) M2.length c2) (w'' := w') ?_ (hK _ _ hI (fun _ _ h => h) rfl)
            clear hK
            simp only [execOp, e1]
            have f1 : a'.tmps[1]?.getD undef = .slice (some ⟨b2, o2, none⟩) M2.length c2 := (Array.getD_eq_getD_getElem? ..).symm.trans e1
            clear e1
            first | rfl | (go_simp <;> exact IntWalk.i64_in _ (by omega))
          · intro a' w' K hI hd hq hK
            have hg := hd 4 10 (by kernel_rfl)
            have e12 : a'.eval (.tmp 12) = .slice (some ⟨b2, o2, none⟩) M2.length c2 := (hd 6 12 (by kernel_rfl))
            clear hd hq
            refine op_value (wanted_on _ a' 4 10 true (by rfl) (by rfl) hg) (v := .int .i64 (M2.length : Int)) (w'' := w') ?_ (hK _ _ hI (fun _ _ h => h) rfl)
            clear hK
            simp only [execOp, e12]
            have f12 : a'.tmps[12]?.getD undef = .slice (some ⟨b2, o2, none⟩) M2.length c2 := (Array.getD_eq_getD_getElem? ..).symm.trans e12
            clear e12
            first | rfl | (go_simp <;> exact IntWalk.i64_in _ (by omega))
          · intro a' w' K hI hd hq hK
            have hg := hd 4 10 (by kernel_rfl)
            have e11 : a'.eval (.tmp 11) = .int .i64 (i : Int) := (hd 5 11 (by kernel_rfl))
            have e13 : a'.eval (.tmp 13) = .int .i64 (M2.length : Int) := (hd 7 13 (by kernel_rfl))
            clear hd hq
            refine op_value (wanted_on _ a' 4 10 true (by rfl) (by rfl) hg) (v := .bool true) (w'' := w') ?_ (hK _ _ hI (fun _ _ h => h) rfl)
            clear hK
            simp only [execOp, e11, e13]
            have f11 : a'.tmps[11]?.getD undef = .int .i64 (i : Int) := (Array.getD_eq_getD_getElem? ..).symm.trans e11
            have f13 : a'.tmps[13]?.getD undef = .int .i64 (M2.length : Int) := (Array.getD_eq_getD_getElem? ..).symm.trans e13
            clear e11 e13
            first | rfl | (go_simp <;> exact IntWalk.i64_in _ (by omega))
          · intro a' w' K hI hd hq hK
            have e10 : a'.eval (.tmp 10) = .bool true := (hd 4 10 (by kernel_rfl))
            have e14 : a'.eval (.tmp 14) = .bool true := (hd 8 14 (by kernel_rfl))
            clear hd hq
            refine op_value (wanted_free _ _ (by rfl)) (v := .bool true) (w'' := w') ?_ (hK _ _ hI (fun _ _ h => h) rfl)
            clear hK
            simp only [execOp, e10, e14]
            have f10 : a'.tmps[10]?.getD undef = .bool true := (Array.getD_eq_getD_getElem? ..).symm.trans e10
            have f14 : a'.tmps[14]?.getD undef = .bool true := (Array.getD_eq_getD_getElem? ..).symm.trans e14
            clear e10 e14
            first | rfl | (go_simp <;> exact IntWalk.i64_in _ (by omega))
          · intro a' w' K hI hd hq hK
            have e15 : a'.eval (.tmp 15) = .bool true := (hd 9 15 (by kernel_rfl))
            clear hd hq
            refine op_value (wanted_free _ _ (by rfl)) (v := .bool true) (w'' := w') ?_ (hK _ _ hI (fun _ _ h => h) rfl)
            clear hK
            simp only [execOp, e15]
            have f15 : a'.tmps[15]?.getD undef = .bool true := (Array.getD_eq_getD_getElem? ..).symm.trans e15
            clear e15
            first | rfl | (go_simp <;> exact IntWalk.i64_in _ (by omega))
          · intro a' w' K hI hd hq hK
            have hg := hd 10 16 (by kernel_rfl)
            have e0 : a'.eval (.tmp 0) = .slice (some ⟨b1, o1, none⟩) M1.length c1 := (hq 0 (by kernel_rfl)).trans rfl
            clear hd hq
            refine op_value (wanted_on _ a' 10 16 true (by rfl) (by rfl) hg) (v := .slice (some ⟨b1, o1, none⟩) M1.length c1) (w'' := w') ?_ (hK _ _ hI (fun _ _ h => h) rfl)
            clear hK
            simp only [execOp, e0]
            have f0 : a'.tmps[0]?.getD undef = .slice (some ⟨b1, o1, none⟩) M1.length c1 := (Array.getD_eq_getD_getElem? ..).symm.trans e0
            clear e0
            first | rfl | (go_simp <;> exact IntWalk.i64_in _ (by omega))
          · intro a' w' K hI hd hq hK
            have hg := hd 10 16 (by kernel_rfl)
            have e5 : a'.eval (.tmp 5) = .int .i64 (i : Int) := (hq 5 (by kernel_rfl)).trans rfl
            clear hd hq
            refine op_value (wanted_on _ a' 10 16 true (by rfl) (by rfl) hg) (v := .int .i64 (i : Int)) (w'' := w') ?_ (hK _ _ hI (fun _ _ h => h) rfl)
            clear hK
            simp only [execOp, e5]
            have f5 : a'.tmps[5]?.getD undef = .int .i64 (i : Int) := (Array.getD_eq_getD_getElem? ..).symm.trans e5
            clear e5
            first | rfl | (go_simp <;> exact IntWalk.i64_in _ (by omega))
          · intro a' w' K hI hd hq hK
            have hg := hd 10 16 (by kernel_rfl)
            have e17 : a'.eval (.tmp 17) = .slice (some ⟨b1, o1, none⟩) M1.length c1 := (hd 11 17 (by kernel_rfl))
            have e18 : a'.eval (.tmp 18) = .int .i64 (i : Int) := (hd 12 18 (by kernel_rfl))
            clear hd hq
            refine op_value (wanted_on _ a' 10 16 true (by rfl) (by rfl) hg) (v := .pointer (some ⟨b1, o1 + i * 33, none⟩)) (w'' := w') ?_ (hK _ _ hI (fun _ _ h => h) rfl)
            clear hK
            simp only [execOp, e17, e18]
            have f17 : a'.tmps[17]?.getD undef = .slice (some ⟨b1, o1, none⟩) M1.length c1 := (Array.getD_eq_getD_getElem? ..).symm.trans e17
            have f18 : a'.tmps[18]?.getD undef = .int .i64 (i : Int) := (Array.getD_eq_getD_getElem? ..).symm.trans e18
            clear e17 e18
            first | rfl | (go_simp <;> exact IntWalk.i64_in _ (by omega))
          · intro a' w' K hI hd hq hK
            have hg := hd 10 16 (by kernel_rfl)
            have e19 : a'.eval (.tmp 19) = .pointer (some ⟨b1, o1 + i * 33, none⟩) := (hd 13 19 (by kernel_rfl))
            clear hd hq
            subst hI
            refine op_value (wanted_on _ a' 10 16 true (by rfl) (by rfl) hg) (v := .agg x1.toArray) (w'' := wr.drew) ?_ (hK _ _ rfl (fun _ _ h => h) rfl)
            simp only [execOp, e19, Instr.loadAt, Instr.sureAddr, Sem.run_bind, Sem.run_pure, Result.andThen_ok, run_loadVar_mid wr.drew b1 (o1 + i * 33) 92 x1 _ RG1.out Try.underlying92 rfl IL1.out]
          · intro a' w' K hI hd hq hK
            have hg := hd 10 16 (by kernel_rfl)
            have e1 : a'.eval (.tmp 1) = .slice (some ⟨b2, o2, none⟩) M2.length c2 := (hq 1 (by kernel_rfl)).trans rfl
            clear hd hq
            refine op_value (wanted_on _ a' 10 16 true (by rfl) (by rfl) hg) (v := .slice (some ⟨b2, o2, none⟩) M2.length c2) (w'' := w') ?_ (hK _ _ hI (fun _ _ h => h) rfl)
            clear hK
            simp only [execOp, e1]
            have f1 : a'.tmps[1]?.getD undef = .slice (some ⟨b2, o2, none⟩) M2.length c2 := (Array.getD_eq_getD_getElem? ..).symm.trans e1
            clear e1
            first | rfl | (go_simp <;> exact IntWalk.i64_in _ (by omega))
          · intro a' w' K hI hd hq hK
            have hg := hd 10 16 (by kernel_rfl)
            have e5 : a'.eval (.tmp 5) = .int .i64 (i : Int) := (hq 5 (by kernel_rfl)).trans rfl
            clear hd hq
            refine op_value (wanted_on _ a' 10 16 true (by rfl) (by rfl) hg) (v := .int .i64 (i : Int)) (w'' := w') ?_ (hK _ _ hI (fun _ _ h => h) rfl)
            clear hK
            simp only [execOp, e5]
            have f5 : a'.tmps[5]?.getD undef = .int .i64 (i : Int) := (Array.getD_eq_getD_getElem? ..).symm.trans e5
            clear e5
            first | rfl | (go_simp <;> exact IntWalk.i64_in _ (by omega))
          · intro a' w' K hI hd hq hK
            have hg := hd 10 16 (by kernel_rfl)
            have e21 : a'.eval (.tmp 21) = .slice (some ⟨b2, o2, none⟩) M2.length c2 := (hd 15 21 (by kernel_rfl))
            have e22 : a'.eval (.tmp 22) = .int .i64 (i : Int) := (hd 16 22 (by kernel_rfl))
            clear hd hq
            refine op_value (wanted_on _ a' 10 16 true (by rfl) (by rfl) hg) (v := .pointer (some ⟨b2, o2 + i * 33, none⟩)) (w'' := w') ?_ (hK _ _ hI (fun _ _ h => h) rfl)
            clear hK
            simp only [execOp, e21, e22]
            have f21 : a'.tmps[21]?.getD undef = .slice (some ⟨b2, o2, none⟩) M2.length c2 := (Array.getD_eq_getD_getElem? ..).symm.trans e21
            have f22 : a'.tmps[22]?.getD undef = .int .i64 (i : Int) := (Array.getD_eq_getD_getElem? ..).symm.trans e22
            clear e21 e22
            first | rfl | (go_simp <;> exact IntWalk.i64_in _ (by omega))
          · intro a' w' K hI hd hq hK
            have hg := hd 10 16 (by kernel_rfl)
            have e23 : a'.eval (.tmp 23) = .pointer (some ⟨b2, o2 + i * 33, none⟩) := (hd 17 23 (by kernel_rfl))
            clear hd hq
            subst hI
            refine op_value (wanted_on _ a' 10 16 true (by rfl) (by rfl) hg) (v := .agg x2.toArray) (w'' := wr.drew) ?_ (hK _ _ rfl (fun _ _ h => h) rfl)
            simp only [execOp, e23, Instr.loadAt, Instr.sureAddr, Sem.run_bind, Sem.run_pure, Result.andThen_ok, run_loadVar_mid wr.drew b2 (o2 + i * 33) 92 x2 _ RG2.out Try.underlying92 rfl IL2.out]
          · intro a' w' K hI hd hq hK
            have hg := hd 10 16 (by kernel_rfl)
            have e20 : a'.eval (.tmp 20) = .agg x1.toArray := (hd 14 20 (by kernel_rfl))
            have e24 : a'.eval (.tmp 24) = .agg x2.toArray := (hd 18 24 (by kernel_rfl))
            clear hd hq
            refine op_value (wanted_on _ a' 10 16 true (by rfl) (by rfl) hg) (v := .bool q) (w'' := w') ?_ (hK _ _ hI (fun _ _ h => h) rfl)
            simp only [execOp, e20, e24, Sem.run_bind, run_eqGuard_agg w' _ 92 _ _ _ _ (show Try.prog.eqGuardType Try.prog.depth 92 = false by kernel_rfl), run_eql_struct, HQ.out w', Result.andThen_ok, Sem.run_pure]
          · intro a' w' K hI hd hq hK
            have e16 : a'.eval (.tmp 16) = .bool true := (hd 10 16 (by kernel_rfl))
            have e25 : a'.eval (.tmp 25) = .bool q := (hd 19 25 (by kernel_rfl))
            clear hd hq
            refine op_value (wanted_free _ _ (by rfl)) (v := .bool q) (w'' := w') ?_ (hK _ _ hI (fun _ _ h => h) rfl)
            clear hK
            simp only [execOp, e16, e25]
            have f16 : a'.tmps[16]?.getD undef = .bool true := (Array.getD_eq_getD_getElem? ..).symm.trans e16
            have f25 : a'.tmps[25]?.getD undef = .bool q := (Array.getD_eq_getD_getElem? ..).symm.trans e25
            clear e16 e25
            first | rfl | (go_simp <;> exact IntWalk.i64_in _ (by omega))
        case fin2 =>
          rintro w' hI _ rfl _ rfl _ rfl _ rfl _ rfl _ rfl _ rfl _ rfl _ rfl _ rfl _ rfl _ rfl _ rfl _ rfl _ rfl _ rfl _ rfl _ rfl _ rfl _ rfl _ rfl
          simp only [Act.put, List.setIfInBounds_toArray, List.set_cons_zero, List.set_cons_succ, FinGoal]
          cases q with
          | true =>
            subst hI
            go_wp2_with fail
            go_roundg (M1.length - (i + 1))
            case measure => have := HK.out; have := HLT1.out; omega
            case rel => exact ⟨i + 1, HLT1.out, HLT2.out, rfl, by go_num, HE1.out (by first | trivial | rfl), HB.out.drew⟩
          | false =>
            subst hI
            go_wp2_with fail
            go_ret
            rw [HE2.out (by first | trivial | rfl)]
            exact ⟨rfl, HB.out.drew⟩
      · obtain rfl : i = M2.length := by omega
        have HRT := Lib.hid (show R = M2.length from ER.out.trans (unlikeS_eq _ M1 M2 HEQ.out hi1 hi2 fun _ h => absurd h hlt2))
        have hlt1' : ((M2.length : Int) < (M1.length : Int)) := by omega
        clear hlt2 hi1 hi2 hlt1
        go_upto_region 2 with fail
        refine region_by (fun W => W = wr.drew) [(fun v _ => v = .int .i64 (M2.length : Int)), (fun v _ => v = .slice A1 M1.length c1), (fun v _ => v = .int .i64 (M1.length : Int)), (fun v _ => v = .bool true), (fun v _ => v = .bool true), (fun v _ => v = .int .i64 (M2.length : Int)), (fun v _ => v = .slice A2 M2.length c2), (fun v _ => v = .int .i64 (M2.length : Int)), (fun v _ => v = .bool false), (fun v _ => v = .bool false), (fun v _ => v = .bool false), (fun v _ => v = undef), (fun v _ => v = undef), (fun v _ => v = undef), (fun v _ => v = undef), (fun v _ => v = undef), (fun v _ => v = undef), (fun v _ => v = undef), (fun v _ => v = undef), (fun v _ => v = undef), (fun v _ => v = .bool false)] (by kernel_rfl) (by kernel_rfl) (by kernel_rfl) rfl (rfl) ?ok2 ?fin2
        case ok2 =>
          refine ⟨?_, ?_, ?_, ?_, ?_, ?_, ?_, ?_, ?_, ?_, ?_, ?_, ?_, ?_, ?_, ?_, ?_, ?_, ?_, ?_, ?_, trivial⟩
          · intro a' w' K hI hd hq hK
            have e5 : a'.eval (.tmp 5) = .int .i64 (M2.length : Int) := (hq 5 (by kernel_rfl)).trans rfl
            clear hd hq
            refine op_value (wanted_free _ _ (by rfl)) (v := .int .i64 (M2.length : Int)) (w'' := w') ?_ (hK _ _ hI (fun _ _ h => h) rfl)
            clear hK
            simp only [execOp, e5]
            have f5 : a'.tmps[5]?.getD undef = .int .i64 (M2.length : Int) := (Array.getD_eq_getD_getElem? ..).symm.trans e5
            clear e5
            first | rfl | (go_simp <;> exact IntWalk.i64_in _ (by omega))
          · intro a' w' K hI hd hq hK
            have e0 : a'.eval (.tmp 0) = .slice A1 M1.length c1 := (hq 0 (by kernel_rfl)).trans rfl
            clear hd hq
            refine op_value (wanted_free _ _ (by rfl)) (v := .slice A1 M1.length c1) (w'' := w') ?_ (hK _ _ hI (fun _ _ h => h) rfl)
            clear hK
            simp only [execOp, e0]
            have f0 : a'.tmps[0]?.getD undef = .slice A1 M1.length c1 := (Array.getD_eq_getD_getElem? ..).symm.trans e0
            clear e0
            first | rfl | (go_simp <;> exact IntWalk.i64_in _ (by omega))
          · intro a' w' K hI hd hq hK
            have e7 : a'.eval (.tmp 7) = .slice A1 M1.length c1 := (hd 1 7 (by kernel_rfl))
            clear hd hq
            refine op_value (wanted_free _ _ (by rfl)) (v := .int .i64 (M1.length : Int)) (w'' := w') ?_ (hK _ _ hI (fun _ _ h => h) rfl)
            clear hK
            simp only [execOp, e7]
            have f7 : a'.tmps[7]?.getD undef = .slice A1 M1.length c1 := (Array.getD_eq_getD_getElem? ..).symm.trans e7
            clear e7
            first | rfl | (go_simp <;> exact IntWalk.i64_in _ (by omega))
          · intro a' w' K hI hd hq hK
            have e6 : a'.eval (.tmp 6) = .int .i64 (M2.length : Int) := (hd 0 6 (by kernel_rfl))
            have e8 : a'.eval (.tmp 8) = .int .i64 (M1.length : Int) := (hd 2 8 (by kernel_rfl))
            clear hd hq
            refine op_value (wanted_free _ _ (by rfl)) (v := .bool true) (w'' := w') ?_ (hK _ _ hI (fun _ _ h => h) rfl)
            clear hK
            simp only [execOp, e6, e8]
            have f6 : a'.tmps[6]?.getD undef = .int .i64 (M2.length : Int) := (Array.getD_eq_getD_getElem? ..).symm.trans e6
            have f8 : a'.tmps[8]?.getD undef = .int .i64 (M1.length : Int) := (Array.getD_eq_getD_getElem? ..).symm.trans e8
            clear e6 e8
            first | rfl | (go_simp <;> exact IntWalk.i64_in _ (by omega))
          · intro a' w' K hI hd hq hK
            have e9 : a'.eval (.tmp 9) = .bool true := (hd 3 9 (by kernel_rfl))
            clear hd hq
            refine op_value (wanted_free _ _ (by rfl)) (v := .bool true) (w'' := w') ?_ (hK _ _ hI (fun _ _ h => h) rfl)
            clear hK
            simp only [execOp, e9]
            have f9 : a'.tmps[9]?.getD undef = .bool true := (Array.getD_eq_getD_getElem? ..).symm.trans e9
            clear e9
            first | rfl | (go_simp <;> exact IntWalk.i64_in _ (by omega))
          · intro a' w' K hI hd hq hK
            have hg := hd 4 10 (by kernel_rfl)
            have e5 : a'.eval (.tmp 5) = .int .i64 (M2.length : Int) := (hq 5 (by kernel_rfl)).trans rfl
            clear hd hq
            refine op_value (wanted_on _ a' 4 10 true (by rfl) (by rfl) hg) (v := .int .i64 (M2.length : Int)) (w'' := w') ?_ (hK _ _ hI (fun _ _ h => h) rfl)
            clear hK
            simp only [execOp, e5]
            have f5 : a'.tmps[5]?.getD undef = .int .i64 (M2.length : Int) := (Array.getD_eq_getD_getElem? ..).symm.trans e5
            clear e5
            first | rfl | (go_simp <;> exact IntWalk.i64_in _ (by omega))
          · intro a' w' K hI hd hq hK
            have hg := hd 4 10 (by kernel_rfl)
            have e1 : a'.eval (.tmp 1) = .slice A2 M2.length c2 := (hq 1 (by kernel_rfl)).trans rfl
            clear hd hq
            refine op_value (wanted_on _ a' 4 10 true (by rfl) (by rfl) hg) (v := .slice A2 M2.length c2) (w'' := w') ?_ (hK _ _ hI (fun _ _ h => h) rfl)
            clear hK
            simp only [execOp, e1]
            have f1 : a'.tmps[1]?.getD undef = .slice A2 M2.length c2 := (Array.getD_eq_getD_getElem? ..).symm.trans e1
            clear e1
            first | rfl | (go_simp <;> exact IntWalk.i64_in _ (by omega))
          · intro a' w' K hI hd hq hK
            have hg := hd 4 10 (by kernel_rfl)
            have e12 : a'.eval (.tmp 12) = .slice A2 M2.length c2 := (hd 6 12 (by kernel_rfl))
            clear hd hq
            refine op_value (wanted_on _ a' 4 10 true (by rfl) (by rfl) hg) (v := .int .i64 (M2.length : Int)) (w'' := w') ?_ (hK _ _ hI (fun _ _ h => h) rfl)
            clear hK
            simp only [execOp, e12]
            have f12 : a'.tmps[12]?.getD undef = .slice A2 M2.length c2 := (Array.getD_eq_getD_getElem? ..).symm.trans e12
            clear e12
            first | rfl | (go_simp <;> exact IntWalk.i64_in _ (by omega))
          · intro a' w' K hI hd hq hK
            have hg := hd 4 10 (by kernel_rfl)
            have e11 : a'.eval (.tmp 11) = .int .i64 (M2.length : Int) := (hd 5 11 (by kernel_rfl))
            have e13 : a'.eval (.tmp 13) = .int .i64 (M2.length : Int) := (hd 7 13 (by kernel_rfl))
            clear hd hq
            refine op_value (wanted_on _ a' 4 10 true (by rfl) (by rfl) hg) (v := .bool false) (w'' := w') ?_ (hK _ _ hI (fun _ _ h => h) rfl)
            clear hK
            simp only [execOp, e11, e13]
            have f11 : a'.tmps[11]?.getD undef = .int .i64 (M2.length : Int) := (Array.getD_eq_getD_getElem? ..).symm.trans e11
            have f13 : a'.tmps[13]?.getD undef = .int .i64 (M2.length : Int) := (Array.getD_eq_getD_getElem? ..).symm.trans e13
            clear e11 e13
            first | rfl | (go_simp <;> exact IntWalk.i64_in _ (by omega))
          · intro a' w' K hI hd hq hK
            have e10 : a'.eval (.tmp 10) = .bool true := (hd 4 10 (by kernel_rfl))
            have e14 : a'.eval (.tmp 14) = .bool false := (hd 8 14 (by kernel_rfl))
            clear hd hq
            refine op_value (wanted_free _ _ (by rfl)) (v := .bool false) (w'' := w') ?_ (hK _ _ hI (fun _ _ h => h) rfl)
            clear hK
            simp only [execOp, e10, e14]
            have f10 : a'.tmps[10]?.getD undef = .bool true := (Array.getD_eq_getD_getElem? ..).symm.trans e10
            have f14 : a'.tmps[14]?.getD undef = .bool false := (Array.getD_eq_getD_getElem? ..).symm.trans e14
            clear e10 e14
            first | rfl | (go_simp <;> exact IntWalk.i64_in _ (by omega))
          · intro a' w' K hI hd hq hK
            have e15 : a'.eval (.tmp 15) = .bool false := (hd 9 15 (by kernel_rfl))
            clear hd hq
            refine op_value (wanted_free _ _ (by rfl)) (v := .bool false) (w'' := w') ?_ (hK _ _ hI (fun _ _ h => h) rfl)
            clear hK
            simp only [execOp, e15]
            have f15 : a'.tmps[15]?.getD undef = .bool false := (Array.getD_eq_getD_getElem? ..).symm.trans e15
            clear e15
            first | rfl | (go_simp <;> exact IntWalk.i64_in _ (by omega))
          · intro a' w' K hI hd hq hK
            have hg := hd 10 16 (by kernel_rfl)
            rw [if_neg (by rw [wanted_off _ a' 10 16 true (by rfl) (by rfl) hg]; decide)]
            exact hK _ _ hI (fun _ _ h => h) rfl
          · intro a' w' K hI hd hq hK
            have hg := hd 10 16 (by kernel_rfl)
            rw [if_neg (by rw [wanted_off _ a' 10 16 true (by rfl) (by rfl) hg]; decide)]
            exact hK _ _ hI (fun _ _ h => h) rfl
          · intro a' w' K hI hd hq hK
            have hg := hd 10 16 (by kernel_rfl)
            rw [if_neg (by rw [wanted_off _ a' 10 16 true (by rfl) (by rfl) hg]; decide)]
            exact hK _ _ hI (fun _ _ h => h) rfl
          · intro a' w' K hI hd hq hK
            have hg := hd 10 16 (by kernel_rfl)
            rw [if_neg (by rw [wanted_off _ a' 10 16 true (by rfl) (by rfl) hg]; decide)]
            exact hK _ _ hI (fun _ _ h => h) rfl
          · intro a' w' K hI hd hq hK
            have hg := hd 10 16 (by kernel_rfl)
            rw [if_neg (by rw [wanted_off _ a' 10 16 true (by rfl) (by rfl) hg]; decide)]
            exact hK _ _ hI (fun _ _ h => h) rfl
          · intro a' w' K hI hd hq hK
            have hg := hd 10 16 (by kernel_rfl)
            rw [if_neg (by rw [wanted_off _ a' 10 16 true (by rfl) (by rfl) hg]; decide)]
            exact hK _ _ hI (fun _ _ h => h) rfl
          · intro a' w' K hI hd hq hK
            have hg := hd 10 16 (by kernel_rfl)
            rw [if_neg (by rw [wanted_off _ a' 10 16 true (by rfl) (by rfl) hg]; decide)]
            exact hK _ _ hI (fun _ _ h => h) rfl
          · intro a' w' K hI hd hq hK
            have hg := hd 10 16 (by kernel_rfl)
            rw [if_neg (by rw [wanted_off _ a' 10 16 true (by rfl) (by rfl) hg]; decide)]
            exact hK _ _ hI (fun _ _ h => h) rfl
          · intro a' w' K hI hd hq hK
            have hg := hd 10 16 (by kernel_rfl)
            rw [if_neg (by rw [wanted_off _ a' 10 16 true (by rfl) (by rfl) hg]; decide)]
            exact hK _ _ hI (fun _ _ h => h) rfl
          · intro a' w' K hI hd hq hK
            have e16 : a'.eval (.tmp 16) = .bool false := (hd 10 16 (by kernel_rfl))
            have e25 : a'.eval (.tmp 25) = undef := (hd 19 25 (by kernel_rfl))
            clear hd hq
            refine op_value (wanted_free _ _ (by rfl)) (v := .bool false) (w'' := w') ?_ (hK _ _ hI (fun _ _ h => h) rfl)
            clear hK
            simp only [execOp, e16, e25]
            have f16 : a'.tmps[16]?.getD undef = .bool false := (Array.getD_eq_getD_getElem? ..).symm.trans e16
            have f25 : a'.tmps[25]?.getD undef = undef := (Array.getD_eq_getD_getElem? ..).symm.trans e25
            clear e16 e25
            first | rfl | (go_simp <;> exact IntWalk.i64_in _ (by omega))
        case fin2 =>
          rintro w' hI _ rfl _ rfl _ rfl _ rfl _ rfl _ rfl _ rfl _ rfl _ rfl _ rfl _ rfl _ rfl _ rfl _ rfl _ rfl _ rfl _ rfl _ rfl _ rfl _ rfl _ rfl
          simp only [Act.put, List.setIfInBounds_toArray, List.set_cons_zero, List.set_cons_succ, FinGoal]
          subst hI
          go_wp2_with fail
          go_ret
          rw [HRT.out]
          exact ⟨rfl, HB.out.drew⟩
    · obtain rfl : i = M1.length := by omega
      have HRT := Lib.hid (show R = M1.length from ER.out.trans (unlikeS_eq _ M1 M2 HEQ.out hi1 hi2 fun h => absurd h hlt1))
      clear hlt1 hi1 hi2
      go_upto_region 2 with fail
      refine region_by (fun W => W = wr.drew) [(fun v _ => v = .int .i64 (M1.length : Int)), (fun v _ => v = .slice A1 M1.length c1), (fun v _ => v = .int .i64 (M1.length : Int)), (fun v _ => v = .bool false), (fun v _ => v = .bool false), (fun v _ => v = undef), (fun v _ => v = undef), (fun v _ => v = undef), (fun v _ => v = undef), (fun v _ => v = .bool false), (fun v _ => v = .bool false), (fun v _ => v = undef), (fun v _ => v = undef), (fun v _ => v = undef), (fun v _ => v = undef), (fun v _ => v = undef), (fun v _ => v = undef), (fun v _ => v = undef), (fun v _ => v = undef), (fun v _ => v = undef), (fun v _ => v = .bool false)] (by kernel_rfl) (by kernel_rfl) (by kernel_rfl) rfl (rfl) ?ok2 ?fin2
      case ok2 =>
        refine ⟨?_, ?_, ?_, ?_, ?_, ?_, ?_, ?_, ?_, ?_, ?_, ?_, ?_, ?_, ?_, ?_, ?_, ?_, ?_, ?_, ?_, trivial⟩
        · intro a' w' K hI hd hq hK
          have e5 : a'.eval (.tmp 5) = .int .i64 (M1.length : Int) := (hq 5 (by kernel_rfl)).trans rfl
          clear hd hq
          refine op_value (wanted_free _ _ (by rfl)) (v := .int .i64 (M1.length : Int)) (w'' := w') ?_ (hK _ _ hI (fun _ _ h => h) rfl)
          clear hK
          simp only [execOp, e5]
          have f5 : a'.tmps[5]?.getD undef = .int .i64 (M1.length : Int) := (Array.getD_eq_getD_getElem? ..).symm.trans e5
          clear e5
          first | rfl | (go_simp <;> exact IntWalk.i64_in _ (by omega))
        · intro a' w' K hI hd hq hK
          have e0 : a'.eval (.tmp 0) = .slice A1 M1.length c1 := (hq 0 (by kernel_rfl)).trans rfl
          clear hd hq
          refine op_value (wanted_free _ _ (by rfl)) (v := .slice A1 M1.length c1) (w'' := w') ?_ (hK _ _ hI (fun _ _ h => h) rfl)
          clear hK
          simp only [execOp, e0]
          have f0 : a'.tmps[0]?.getD undef = .slice A1 M1.length c1 := (Array.getD_eq_getD_getElem? ..).symm.trans e0
          clear e0
          first | rfl | (go_simp <;> exact IntWalk.i64_in _ (by omega))
        · intro a' w' K hI hd hq hK
          have e7 : a'.eval (.tmp 7) = .slice A1 M1.length c1 := (hd 1 7 (by kernel_rfl))
          clear hd hq
          refine op_value (wanted_free _ _ (by rfl)) (v := .int .i64 (M1.length : Int)) (w'' := w') ?_ (hK _ _ hI (fun _ _ h => h) rfl)
          clear hK
          simp only [execOp, e7]
          have f7 : a'.tmps[7]?.getD undef = .slice A1 M1.length c1 := (Array.getD_eq_getD_getElem? ..).symm.trans e7
          clear e7
          first | rfl | (go_simp <;> exact IntWalk.i64_in _ (by omega))
        · intro a' w' K hI hd hq hK
          have e6 : a'.eval (.tmp 6) = .int .i64 (M1.length : Int) := (hd 0 6 (by kernel_rfl))
          have e8 : a'.eval (.tmp 8) = .int .i64 (M1.length : Int) := (hd 2 8 (by kernel_rfl))
          clear hd hq
          refine op_value (wanted_free _ _ (by rfl)) (v := .bool false) (w'' := w') ?_ (hK _ _ hI (fun _ _ h => h) rfl)
          clear hK
          simp only [execOp, e6, e8]
          have f6 : a'.tmps[6]?.getD undef = .int .i64 (M1.length : Int) := (Array.getD_eq_getD_getElem? ..).symm.trans e6
          have f8 : a'.tmps[8]?.getD undef = .int .i64 (M1.length : Int) := (Array.getD_eq_getD_getElem? ..).symm.trans e8
          clear e6 e8
          first | rfl | (go_simp <;> exact IntWalk.i64_in _ (by omega))
        · intro a' w' K hI hd hq hK
          have e9 : a'.eval (.tmp 9) = .bool false := (hd 3 9 (by kernel_rfl))
          clear hd hq
          refine op_value (wanted_free _ _ (by rfl)) (v := .bool false) (w'' := w') ?_ (hK _ _ hI (fun _ _ h => h) rfl)
          clear hK
          simp only [execOp, e9]
          have f9 : a'.tmps[9]?.getD undef = .bool false := (Array.getD_eq_getD_getElem? ..).symm.trans e9
          clear e9
          first | rfl | (go_simp <;> exact IntWalk.i64_in _ (by omega))
        · intro a' w' K hI hd hq hK
          have hg := hd 4 10 (by kernel_rfl)
          rw [if_neg (by rw [wanted_off _ a' 4 10 true (by rfl) (by rfl) hg]; decide)]
          exact hK _ _ hI (fun _ _ h => h) rfl
        · intro a' w' K hI hd hq hK
          have hg := hd 4 10 (by kernel_rfl)
          rw [if_neg (by rw [wanted_off _ a' 4 10 true (by rfl) (by rfl) hg]; decide)]
          exact hK _ _ hI (fun _ _ h => h) rfl
        · intro a' w' K hI hd hq hK
          have hg := hd 4 10 (by kernel_rfl)
          rw [if_neg (by rw [wanted_off _ a' 4 10 true (by rfl) (by rfl) hg]; decide)]
          exact hK _ _ hI (fun _ _ h => h) rfl
        · intro a' w' K hI hd hq hK
          have hg := hd 4 10 (by kernel_rfl)
          rw [if_neg (by rw [wanted_off _ a' 4 10 true (by rfl) (by rfl) hg]; decide)]
          exact hK _ _ hI (fun _ _ h => h) rfl
        · intro a' w' K hI hd hq hK
          have e10 : a'.eval (.tmp 10) = .bool false := (hd 4 10 (by kernel_rfl))
          have e14 : a'.eval (.tmp 14) = undef := (hd 8 14 (by kernel_rfl))
          clear hd hq
          refine op_value (wanted_free _ _ (by rfl)) (v := .bool false) (w'' := w') ?_ (hK _ _ hI (fun _ _ h => h) rfl)
          clear hK
          simp only [execOp, e10, e14]
          have f10 : a'.tmps[10]?.getD undef = .bool false := (Array.getD_eq_getD_getElem? ..).symm.trans e10
          have f14 : a'.tmps[14]?.getD undef = undef := (Array.getD_eq_getD_getElem? ..).symm.trans e14
          clear e10 e14
          first | rfl | (go_simp <;> exact IntWalk.i64_in _ (by omega))
        · intro a' w' K hI hd hq hK
          have e15 : a'.eval (.tmp 15) = .bool false := (hd 9 15 (by kernel_rfl))
          clear hd hq
          refine op_value (wanted_free _ _ (by rfl)) (v := .bool false) (w'' := w') ?_ (hK _ _ hI (fun _ _ h => h) rfl)
          clear hK
          simp only [execOp, e15]
          have f15 : a'.tmps[15]?.getD undef = .bool false := (Array.getD_eq_getD_getElem? ..).symm.trans e15
          clear e15
          first | rfl | (go_simp <;> exact IntWalk.i64_in _ (by omega))
        · intro a' w' K hI hd hq hK
          have hg := hd 10 16 (by kernel_rfl)
          rw [if_neg (by rw [wanted_off _ a' 10 16 true (by rfl) (by rfl) hg]; decide)]
          exact hK _ _ hI (fun _ _ h => h) rfl
        · intro a' w' K hI hd hq hK
          have hg := hd 10 16 (by kernel_rfl)
          rw [if_neg (by rw [wanted_off _ a' 10 16 true (by rfl) (by rfl) hg]; decide)]
          exact hK _ _ hI (fun _ _ h => h) rfl
        · intro a' w' K hI hd hq hK
          have hg := hd 10 16 (by kernel_rfl)
          rw [if_neg (by rw [wanted_off _ a' 10 16 true (by rfl) (by rfl) hg]; decide)]
          exact hK _ _ hI (fun _ _ h => h) rfl
        · intro a' w' K hI hd hq hK
          have hg := hd 10 16 (by kernel_rfl)
          rw [if_neg (by rw [wanted_off _ a' 10 16 true (by rfl) (by rfl) hg]; decide)]
          exact hK _ _ hI (fun _ _ h => h) rfl
        · intro a' w' K hI hd hq hK
          have hg := hd 10 16 (by kernel_rfl)
          rw [if_neg (by rw [wanted_off _ a' 10 16 true (by rfl) (by rfl) hg]; decide)]
          exact hK _ _ hI (fun _ _ h => h) rfl
        · intro a' w' K hI hd hq hK
          have hg := hd 10 16 (by kernel_rfl)
          rw [if_neg (by rw [wanted_off _ a' 10 16 true (by rfl) (by rfl) hg]; decide)]
          exact hK _ _ hI (fun _ _ h => h) rfl
        · intro a' w' K hI hd hq hK
          have hg := hd 10 16 (by kernel_rfl)
          rw [if_neg (by rw [wanted_off _ a' 10 16 true (by rfl) (by rfl) hg]; decide)]
          exact hK _ _ hI (fun _ _ h => h) rfl
        · intro a' w' K hI hd hq hK
          have hg := hd 10 16 (by kernel_rfl)
          rw [if_neg (by rw [wanted_off _ a' 10 16 true (by rfl) (by rfl) hg]; decide)]
          exact hK _ _ hI (fun _ _ h => h) rfl
        · intro a' w' K hI hd hq hK
          have hg := hd 10 16 (by kernel_rfl)
          rw [if_neg (by rw [wanted_off _ a' 10 16 true (by rfl) (by rfl) hg]; decide)]
          exact hK _ _ hI (fun _ _ h => h) rfl
        · intro a' w' K hI hd hq hK
          have e16 : a'.eval (.tmp 16) = .bool false := (hd 10 16 (by kernel_rfl))
          have e25 : a'.eval (.tmp 25) = undef := (hd 19 25 (by kernel_rfl))
          clear hd hq
          refine op_value (wanted_free _ _ (by rfl)) (v := .bool false) (w'' := w') ?_ (hK _ _ hI (fun _ _ h => h) rfl)
          clear hK
          simp only [execOp, e16, e25]
          have f16 : a'.tmps[16]?.getD undef = .bool false := (Array.getD_eq_getD_getElem? ..).symm.trans e16
          have f25 : a'.tmps[25]?.getD undef = undef := (Array.getD_eq_getD_getElem? ..).symm.trans e25
          clear e16 e25
          first | rfl | (go_simp <;> exact IntWalk.i64_in _ (by omega))
      case fin2 =>
        rintro w' hI _ rfl _ rfl _ rfl _ rfl _ rfl _ rfl _ rfl _ rfl _ rfl _ rfl _ rfl _ rfl _ rfl _ rfl _ rfl _ rfl _ rfl _ rfl _ rfl _ rfl _ rfl
        simp only [Act.put, List.setIfInBounds_toArray, List.set_cons_zero, List.set_cons_succ, FinGoal]
        subst hI
        go_wp2_with fail
        go_ret
        rw [HRT.out]
        exact ⟨rfl, HB.out.drew⟩

end Go.Proofs.Ytjakhemolecbnaa
end
