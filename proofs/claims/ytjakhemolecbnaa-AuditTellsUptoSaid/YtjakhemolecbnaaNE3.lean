/-
  The texts Found of this proof in one (what is used of them): what each proves is said at its head. No conditions beyond those that each theorem says.
-/
import Derived.Test.YtjakhemolecbnaaNE2
import Derived.Test.YtjakhemolecbnaaND2

/-
  The walk of the verifier's found.
-/
section
set_option linter.unusedVariables false
set_option linter.unusedSimpArgs false
namespace Go.Proofs.Ytjakhemolecbnaa
open Go.RowKit

theorem builtInt3 (a b c : Int) : Try.prog.builtSlice 3 3 [(0, .int .i64 a), (1, .int .i64 b), (2, .int .i64 c)] = some #[.int .i64 a, .int .i64 b, .int .i64 c] := by kernel_rfl

set_option maxRecDepth 100000 in
set_option maxHeartbeats 4000000 in
theorem found_any (p : Nat) (vl : Value) (b : Int × Int × Int) (rl nn aa : Int) (w : World) (h : VAt w p vl b) :
    Calls Try.prog 32 #[.pointer (some ⟨p, 0, none⟩), .int .i64 rl, .int .i64 nn, .int .i64 aa] w fun e w' => e = .returned (.tuple #[]) ∧ VAt w' p vl (bestOf b (rl, nn, aa)) ∧ Upd (fun k => k = p) w w' := by
  obtain ⟨r0, c0, a0⟩ := b
  unfold VAt at h
  dsimp only at h
  have hpl : p < w.heap.size := (Array.getElem?_eq_some_iff.1 h).1
  obtain ⟨w1, hw1⟩ : ∃ w1, w1 = w.alloc (.cells #[.int .i64 rl, .int .i64 nn, .int .i64 aa] 33) := ⟨_, rfl⟩
  have hb1 : Below w.heap.size w w1 := by rw [hw1]; exact (Below.refl _ _).alloc (Nat.le_refl _) _
  have hp1 : w1.heap[p]? = some (.cells #[vl, .int .i64 r0, .int .i64 c0, .int .i64 a0] 70 (0, 0)) := (hb1.block p hpl).trans h
  have hg1 : w1.heap[w.heap.size]? = some (.cells #[.int .i64 rl, .int .i64 nn, .int .i64 aa] 33 (0, 0)) := by rw [hw1]; exact heap_alloc_new w _
  have HB1 := Lib.hid hb1
  have HP1 := Lib.hid hp1
  have HG1 := Lib.hid hg1
  have HW1 := Lib.hid hw1
  have HPL := Lib.hid hpl
  clear h hb1 hp1 hg1 hw1
  have fin : ∀ W, Below w1.heap.size w1 W → (∀ j, W.frozen? ⟨p, j, none⟩ = false) ∧ W.heap[p]? = some (.cells #[vl, .int .i64 r0, .int .i64 c0, .int .i64 a0] 70 (0, 0)) ∧ W.heap[w.heap.size]? = some (.cells #[.int .i64 rl, .int .i64 nn, .int .i64 aa] 33 (0, 0)) := fun W hW => by
    have h1 := (hW.block p (Array.getElem?_eq_some_iff.1 HP1.out).1).trans HP1.out
    have h2 := (hW.block w.heap.size (Array.getElem?_eq_some_iff.1 HG1.out).1).trans HG1.out
    exact ⟨fun j => frozen_of_row W p j _ _ h1, h1, h2⟩
  have FIN := Lib.hid fin
  clear fin
  obtain ⟨bo, hbo⟩ : ∃ bo, bestOf (r0, c0, a0) (rl, nn, aa) = bo := ⟨_, rfl⟩
  rw [hbo]
  have HBO := Lib.hid hbo
  clear hbo
  go_enter Try.func32, Try.ntmps32
  go_upto_region 1 with fail
  rw [← HW1.out]
  have P1 : w1.cell? ⟨p, 1, none⟩ = some (.int .i64 r0) := (cell_of_row w1 p 1 _ _ _ HP1.out).trans rfl
  have P2 : w1.cell? ⟨p, 2, none⟩ = some (.int .i64 c0) := (cell_of_row w1 p 2 _ _ _ HP1.out).trans rfl
  have P3 : w1.cell? ⟨p, 3, none⟩ = some (.int .i64 a0) := (cell_of_row w1 p 3 _ _ _ HP1.out).trans rfl
  have G0 : w1.cell? ⟨w.heap.size, 0, none⟩ = some (.int .i64 rl) := (cell_of_row w1 _ 0 _ _ _ HG1.out).trans rfl
  have G1 : w1.cell? ⟨w.heap.size, 1, none⟩ = some (.int .i64 nn) := (cell_of_row w1 _ 1 _ _ _ HG1.out).trans rfl
  have G2 : w1.cell? ⟨w.heap.size, 2, none⟩ = some (.int .i64 aa) := (cell_of_row w1 _ 2 _ _ _ HG1.out).trans rfl
  have HFI := Lib.hid (show ∀ W, Below w1.heap.size w1 W → ∀ W2, W2 = ((W.setCell ⟨p, 1, none⟩ (.int .i64 rl)).setCell ⟨p, 2, none⟩ (.int .i64 nn)).setCell ⟨p, 3, none⟩ (.int .i64 aa) → VAt W2 p vl (rl, nn, aa) ∧ Upd (fun k => k = p) w W2 from by
    rintro W hW W2 rfl
    refine ⟨?_, ((((Upd.of_below (F := fun k => k = p) (below_below HB1.out HB1.out.size hW)).setCell (p := ⟨p, 1, none⟩) (fun _ => rfl) _).setCell (p := ⟨p, 2, none⟩) (fun _ => rfl) _).setCell (p := ⟨p, 3, none⟩) (fun _ => rfl) _)⟩
    unfold VAt
    rw [setCell_at (setCell_at (setCell_at (FIN.out W hW).2.1 _) _) _]
    rfl)
  have HUP := Lib.hid (show ∀ W, Below w1.heap.size w1 W → Upd (fun k => k = p) w W from fun W hW => Upd.of_below (below_below HB1.out HB1.out.size hW))
  generalize w.heap.size = gf at *
  by_cases hr : r0 = 0
  · have hbo : bestOf (r0, c0, a0) (rl, nn, aa) = (rl, nn, aa) := by unfold bestOf; rw [if_pos (.inl hr)]
    have HBE := Lib.hid (HBO.out.symm.trans hbo)
    have hr1 : (r0 == 0) = true := by simpa using hr
    clear hbo
    subst hr
    go_region
    all_goals
      have hI : Below w1.heap.size w1 w1.drew := (Below.refl _ _).drew
      have HI := Lib.hid hI
      have hfz := (FIN.out _ (Below.refl _ _)).1
      have f1 := hfz 1
      have f2 := hfz 2
      have f3 := hfz 3
      clear hI hfz
      go_wp2_with fail
      go_end0
      obtain ⟨h1, h2⟩ := HFI.out _ HI.out _ rfl
      exact ⟨rfl, by rw [HBE.out]; exact h1, h2⟩
  · have hbo : bestOf (r0, c0, a0) (rl, nn, aa) = if orOf (sgnOf rl r0) (sgnOf nn c0) (sgnOf aa a0) < 0 then (rl, nn, aa) else (r0, c0, a0) := by
      unfold bestOf
      dsimp only
      by_cases hx : orOf (sgnOf rl r0) (sgnOf nn c0) (sgnOf aa a0) < 0
      · rw [if_pos (.inr hx), if_pos hx]
      · rw [if_neg (fun h => h.elim hr hx), if_neg hx]
    have hr1 : (r0 == 0) = false := by simpa using hr
    obtain ⟨s1, hs1⟩ : ∃ s1, sgnOf rl r0 = s1 := ⟨_, rfl⟩
    obtain ⟨s2, hs2⟩ : ∃ s2, sgnOf nn c0 = s2 := ⟨_, rfl⟩
    obtain ⟨s3, hs3⟩ : ∃ s3, sgnOf aa a0 = s3 := ⟨_, rfl⟩
    rw [hs1, hs2, hs3] at hbo
    obtain ⟨so, hso⟩ : ∃ so, orOf s1 s2 s3 = so := ⟨_, rfl⟩
    rw [hso] at hbo
    have HBE := Lib.hid (HBO.out.symm.trans hbo)
    obtain ⟨bb, hbb⟩ : ∃ bb, decide (so < 0) = bb := ⟨_, rfl⟩
    have HS1 := Lib.hid hs1
    have HS2 := Lib.hid hs2
    have HS3 := Lib.hid hs3
    have HSO := Lib.hid hso
    have HBB := Lib.hid hbb
    have HB3 := Lib.hid (builtInt3 s1 s2 s3)
    clear hbo hs1 hs2 hs3 hso hbb hr
    refine region_by (fun W => Below w1.heap.size w1 W) [(fun v _ => v = .pointer (some ⟨p, 0, none⟩)), (fun v _ => v = .pointer (some ⟨p, 0, none⟩)), (fun v _ => v = .pointer (some ⟨p, 1, none⟩)), (fun v _ => v = .pointer (some ⟨p, 1, none⟩)), (fun v _ => v = .int .i64 r0), (fun v _ => v = .bool false), (fun v _ => v = .bool false), (fun v _ => v = .pointer (some ⟨gf, 0, none⟩)), (fun v _ => v = .int .i64 rl), (fun v _ => v = .pointer (some ⟨p, 0, none⟩)), (fun v _ => v = .pointer (some ⟨p, 0, none⟩)), (fun v _ => v = .pointer (some ⟨p, 1, none⟩)), (fun v _ => v = .pointer (some ⟨p, 1, none⟩)), (fun v _ => v = .int .i64 r0), fun v _ => v = .int .i64 s1, (fun v _ => v = .pointer (some ⟨gf, 1, none⟩)), (fun v _ => v = .int .i64 nn), (fun v _ => v = .pointer (some ⟨p, 0, none⟩)), (fun v _ => v = .pointer (some ⟨p, 0, none⟩)), (fun v _ => v = .pointer (some ⟨p, 1, none⟩)), (fun v _ => v = .pointer (some ⟨p, 2, none⟩)), (fun v _ => v = .int .i64 c0), fun v _ => v = .int .i64 s2, (fun v _ => v = .pointer (some ⟨gf, 2, none⟩)), (fun v _ => v = .int .i64 aa), (fun v _ => v = .pointer (some ⟨p, 0, none⟩)), (fun v _ => v = .pointer (some ⟨p, 0, none⟩)), (fun v _ => v = .pointer (some ⟨p, 1, none⟩)), (fun v _ => v = .pointer (some ⟨p, 3, none⟩)), (fun v _ => v = .int .i64 a0), fun v _ => v = .int .i64 s3, fun v w' => ∃ g, v = .slice (some ⟨g, 0, none⟩) 3 3 ∧ w'.cell? ⟨g, 0, none⟩ = some (.int .i64 s1) ∧ w'.cell? ⟨g, 1, none⟩ = some (.int .i64 s2) ∧ w'.cell? ⟨g, 2, none⟩ = some (.int .i64 s3), fun v _ => v = .int .i64 so, fun v _ => v = .bool bb, (fun v _ => v = .bool bb)] (by kernel_rfl) (by kernel_rfl) (by kernel_rfl) rfl ((Below.refl _ _).drew) ?ok1 ?fin1
    case ok1 =>
      refine ⟨?_, ?_, ?_, ?_, ?_, ?_, ?_, ?_, ?_, ?_, ?_, ?_, ?_, ?_, ?_, ?_, ?_, ?_, ?_, ?_, ?_, ?_, ?_, ?_, ?_, ?_, ?_, ?_, ?_, ?_, ?_, ?_, ?_, ?_, ?_, trivial⟩
      · intro a' w' K hI hd hq hK
        have e0 : a'.eval (.tmp 0) = .pointer (some ⟨p, 0, none⟩) := (hq 0 (by kernel_rfl)).trans rfl
        clear hd hq
        refine op_value (wanted_free _ _ (by rfl)) (v := .pointer (some ⟨p, 0, none⟩)) (w'' := w') ?_ (hK _ _ hI (fun _ _ h => h) rfl)
        clear hK
        simp only [execOp, e0]
        have f0 : a'.tmps[0]?.getD undef = .pointer (some ⟨p, 0, none⟩) := (Array.getD_eq_getD_getElem? ..).symm.trans e0
        clear e0
        first | rfl | (go_simp <;> exact IntWalk.i64_in _ (by omega))
      · intro a' w' K hI hd hq hK
        have e13 : a'.eval (.tmp 13) = .pointer (some ⟨p, 0, none⟩) := (hd 0 13 (by kernel_rfl))
        clear hd hq
        refine op_value (wanted_free _ _ (by rfl)) (v := .pointer (some ⟨p, 0, none⟩)) (w'' := w') ?_ (hK _ _ hI (fun _ _ h => h) rfl)
        clear hK
        simp only [execOp, e13]
        have f13 : a'.tmps[13]?.getD undef = .pointer (some ⟨p, 0, none⟩) := (Array.getD_eq_getD_getElem? ..).symm.trans e13
        clear e13
        first | rfl | (go_simp <;> exact IntWalk.i64_in _ (by omega))
      · intro a' w' K hI hd hq hK
        have e14 : a'.eval (.tmp 14) = .pointer (some ⟨p, 0, none⟩) := (hd 1 14 (by kernel_rfl))
        clear hd hq
        refine op_value (wanted_free _ _ (by rfl)) (v := .pointer (some ⟨p, 1, none⟩)) (w'' := w') ?_ (hK _ _ hI (fun _ _ h => h) rfl)
        clear hK
        simp only [execOp, e14]
        have f14 : a'.tmps[14]?.getD undef = .pointer (some ⟨p, 0, none⟩) := (Array.getD_eq_getD_getElem? ..).symm.trans e14
        clear e14
        first | rfl | (go_simp <;> exact IntWalk.i64_in _ (by omega))
      · intro a' w' K hI hd hq hK
        have e15 : a'.eval (.tmp 15) = .pointer (some ⟨p, 1, none⟩) := (hd 2 15 (by kernel_rfl))
        clear hd hq
        refine op_value (wanted_free _ _ (by rfl)) (v := .pointer (some ⟨p, 1, none⟩)) (w'' := w') ?_ (hK _ _ hI (fun _ _ h => h) rfl)
        clear hK
        simp only [execOp, e15]
        have f15 : a'.tmps[15]?.getD undef = .pointer (some ⟨p, 1, none⟩) := (Array.getD_eq_getD_getElem? ..).symm.trans e15
        clear e15
        first | rfl | (go_simp <;> exact IntWalk.i64_in _ (by omega))
      · intro a' w' K hI hd hq hK
        have e16 : a'.eval (.tmp 16) = .pointer (some ⟨p, 1, none⟩) := (hd 3 16 (by kernel_rfl))
        clear hd hq
        have cx := cell_below hI P1
        refine op_value (wanted_free _ _ (by rfl)) (v := .int .i64 r0) (w'' := w') ?_ (hK _ _ hI (fun _ _ h => h) rfl)
        clear hK
        simp only [execOp, e16]
        have f16 : a'.tmps[16]?.getD undef = .pointer (some ⟨p, 1, none⟩) := (Array.getD_eq_getD_getElem? ..).symm.trans e16
        clear e16
        first | rfl | (go_simp <;> exact IntWalk.i64_in _ (by omega))
      · intro a' w' K hI hd hq hK
        have e17 : a'.eval (.tmp 17) = .int .i64 r0 := (hd 4 17 (by kernel_rfl))
        clear hd hq
        refine op_value (wanted_free _ _ (by rfl)) (v := .bool false) (w'' := w') ?_ (hK _ _ hI (fun _ _ h => h) rfl)
        clear hK
        simp only [execOp, e17]
        have f17 : a'.tmps[17]?.getD undef = .int .i64 r0 := (Array.getD_eq_getD_getElem? ..).symm.trans e17
        clear e17
        first | rfl | (go_simp <;> exact IntWalk.i64_in _ (by omega))
      · intro a' w' K hI hd hq hK
        have e18 : a'.eval (.tmp 18) = .bool false := (hd 5 18 (by kernel_rfl))
        clear hd hq
        refine op_value (wanted_free _ _ (by rfl)) (v := .bool false) (w'' := w') ?_ (hK _ _ hI (fun _ _ h => h) rfl)
        clear hK
        simp only [execOp, e18]
        have f18 : a'.tmps[18]?.getD undef = .bool false := (Array.getD_eq_getD_getElem? ..).symm.trans e18
        clear e18
        first | rfl | (go_simp <;> exact IntWalk.i64_in _ (by omega))
      · intro a' w' K hI hd hq hK
        have hg := hd 6 19 (by kernel_rfl)
        have e8 : a'.eval (.tmp 8) = .pointer (some ⟨gf, 0, none⟩) := (hq 8 (by kernel_rfl)).trans rfl
        clear hd hq
        refine op_value (wanted_on _ a' 6 19 false (by rfl) (by rfl) hg) (v := .pointer (some ⟨gf, 0, none⟩)) (w'' := w') ?_ (hK _ _ hI (fun _ _ h => h) rfl)
        clear hK
        simp only [execOp, e8]
        have f8 : a'.tmps[8]?.getD undef = .pointer (some ⟨gf, 0, none⟩) := (Array.getD_eq_getD_getElem? ..).symm.trans e8
        clear e8
        first | rfl | (go_simp <;> exact IntWalk.i64_in _ (by omega))
      · intro a' w' K hI hd hq hK
        have hg := hd 6 19 (by kernel_rfl)
        have e20 : a'.eval (.tmp 20) = .pointer (some ⟨gf, 0, none⟩) := (hd 7 20 (by kernel_rfl))
        clear hd hq
        have cx := cell_below hI G0
        refine op_value (wanted_on _ a' 6 19 false (by rfl) (by rfl) hg) (v := .int .i64 rl) (w'' := w') ?_ (hK _ _ hI (fun _ _ h => h) rfl)
        clear hK
        simp only [execOp, e20]
        have f20 : a'.tmps[20]?.getD undef = .pointer (some ⟨gf, 0, none⟩) := (Array.getD_eq_getD_getElem? ..).symm.trans e20
        clear e20
        first | rfl | (go_simp <;> exact IntWalk.i64_in _ (by omega))
      · intro a' w' K hI hd hq hK
        have hg := hd 6 19 (by kernel_rfl)
        have e0 : a'.eval (.tmp 0) = .pointer (some ⟨p, 0, none⟩) := (hq 0 (by kernel_rfl)).trans rfl
        clear hd hq
        refine op_value (wanted_on _ a' 6 19 false (by rfl) (by rfl) hg) (v := .pointer (some ⟨p, 0, none⟩)) (w'' := w') ?_ (hK _ _ hI (fun _ _ h => h) rfl)
        clear hK
        simp only [execOp, e0]
        have f0 : a'.tmps[0]?.getD undef = .pointer (some ⟨p, 0, none⟩) := (Array.getD_eq_getD_getElem? ..).symm.trans e0
        clear e0
        first | rfl | (go_simp <;> exact IntWalk.i64_in _ (by omega))
      · intro a' w' K hI hd hq hK
        have hg := hd 6 19 (by kernel_rfl)
        have e22 : a'.eval (.tmp 22) = .pointer (some ⟨p, 0, none⟩) := (hd 9 22 (by kernel_rfl))
        clear hd hq
        refine op_value (wanted_on _ a' 6 19 false (by rfl) (by rfl) hg) (v := .pointer (some ⟨p, 0, none⟩)) (w'' := w') ?_ (hK _ _ hI (fun _ _ h => h) rfl)
        clear hK
        simp only [execOp, e22]
        have f22 : a'.tmps[22]?.getD undef = .pointer (some ⟨p, 0, none⟩) := (Array.getD_eq_getD_getElem? ..).symm.trans e22
        clear e22
        first | rfl | (go_simp <;> exact IntWalk.i64_in _ (by omega))
      · intro a' w' K hI hd hq hK
        have hg := hd 6 19 (by kernel_rfl)
        have e23 : a'.eval (.tmp 23) = .pointer (some ⟨p, 0, none⟩) := (hd 10 23 (by kernel_rfl))
        clear hd hq
        refine op_value (wanted_on _ a' 6 19 false (by rfl) (by rfl) hg) (v := .pointer (some ⟨p, 1, none⟩)) (w'' := w') ?_ (hK _ _ hI (fun _ _ h => h) rfl)
        clear hK
        simp only [execOp, e23]
        have f23 : a'.tmps[23]?.getD undef = .pointer (some ⟨p, 0, none⟩) := (Array.getD_eq_getD_getElem? ..).symm.trans e23
        clear e23
        first | rfl | (go_simp <;> exact IntWalk.i64_in _ (by omega))
      · intro a' w' K hI hd hq hK
        have hg := hd 6 19 (by kernel_rfl)
        have e24 : a'.eval (.tmp 24) = .pointer (some ⟨p, 1, none⟩) := (hd 11 24 (by kernel_rfl))
        clear hd hq
        refine op_value (wanted_on _ a' 6 19 false (by rfl) (by rfl) hg) (v := .pointer (some ⟨p, 1, none⟩)) (w'' := w') ?_ (hK _ _ hI (fun _ _ h => h) rfl)
        clear hK
        simp only [execOp, e24]
        have f24 : a'.tmps[24]?.getD undef = .pointer (some ⟨p, 1, none⟩) := (Array.getD_eq_getD_getElem? ..).symm.trans e24
        clear e24
        first | rfl | (go_simp <;> exact IntWalk.i64_in _ (by omega))
      · intro a' w' K hI hd hq hK
        have hg := hd 6 19 (by kernel_rfl)
        have e25 : a'.eval (.tmp 25) = .pointer (some ⟨p, 1, none⟩) := (hd 12 25 (by kernel_rfl))
        clear hd hq
        have cx := cell_below hI P1
        refine op_value (wanted_on _ a' 6 19 false (by rfl) (by rfl) hg) (v := .int .i64 r0) (w'' := w') ?_ (hK _ _ hI (fun _ _ h => h) rfl)
        clear hK
        simp only [execOp, e25]
        have f25 : a'.tmps[25]?.getD undef = .pointer (some ⟨p, 1, none⟩) := (Array.getD_eq_getD_getElem? ..).symm.trans e25
        clear e25
        first | rfl | (go_simp <;> exact IntWalk.i64_in _ (by omega))
      · intro a' w' K hI hd hq hK
        have hg := hd 6 19 (by kernel_rfl)
        have e21 : a'.eval (.tmp 21) = .int .i64 rl := (hd 8 21 (by kernel_rfl))
        have e26 : a'.eval (.tmp 26) = .int .i64 r0 := (hd 13 26 (by kernel_rfl))
        clear hd hq
        refine op_call #[.int .i64 rl, .int .i64 r0] (wanted_on _ a' 6 19 false (by rfl) (by rfl) hg) rfl Try.func59 (by kernel_rfl) rfl (by simp [e21, e26]) ?_
        refine (compare_any rl r0 w').mono ?_
        rw [HS1.out]
        rintro e w6 ⟨rfl, rfl⟩
        exact ⟨_, rfl, hK _ _ hI (fun _ _ h => h) rfl⟩
      · intro a' w' K hI hd hq hK
        have hg := hd 6 19 (by kernel_rfl)
        have e8 : a'.eval (.tmp 8) = .pointer (some ⟨gf, 0, none⟩) := (hq 8 (by kernel_rfl)).trans rfl
        clear hd hq
        refine op_value (wanted_on _ a' 6 19 false (by rfl) (by rfl) hg) (v := .pointer (some ⟨gf, 1, none⟩)) (w'' := w') ?_ (hK _ _ hI (fun _ _ h => h) rfl)
        clear hK
        simp only [execOp, e8]
        have f8 : a'.tmps[8]?.getD undef = .pointer (some ⟨gf, 0, none⟩) := (Array.getD_eq_getD_getElem? ..).symm.trans e8
        clear e8
        first | rfl | (go_simp <;> exact IntWalk.i64_in _ (by omega))
      · intro a' w' K hI hd hq hK
        have hg := hd 6 19 (by kernel_rfl)
        have e28 : a'.eval (.tmp 28) = .pointer (some ⟨gf, 1, none⟩) := (hd 15 28 (by kernel_rfl))
        clear hd hq
        have cx := cell_below hI G1
        refine op_value (wanted_on _ a' 6 19 false (by rfl) (by rfl) hg) (v := .int .i64 nn) (w'' := w') ?_ (hK _ _ hI (fun _ _ h => h) rfl)
        clear hK
        simp only [execOp, e28]
        have f28 : a'.tmps[28]?.getD undef = .pointer (some ⟨gf, 1, none⟩) := (Array.getD_eq_getD_getElem? ..).symm.trans e28
        clear e28
        first | rfl | (go_simp <;> exact IntWalk.i64_in _ (by omega))
      · intro a' w' K hI hd hq hK
        have hg := hd 6 19 (by kernel_rfl)
        have e0 : a'.eval (.tmp 0) = .pointer (some ⟨p, 0, none⟩) := (hq 0 (by kernel_rfl)).trans rfl
        clear hd hq
        refine op_value (wanted_on _ a' 6 19 false (by rfl) (by rfl) hg) (v := .pointer (some ⟨p, 0, none⟩)) (w'' := w') ?_ (hK _ _ hI (fun _ _ h => h) rfl)
        clear hK
        simp only [execOp, e0]
        have f0 : a'.tmps[0]?.getD undef = .pointer (some ⟨p, 0, none⟩) := (Array.getD_eq_getD_getElem? ..).symm.trans e0
        clear e0
        first | rfl | (go_simp <;> exact IntWalk.i64_in _ (by omega))
      · intro a' w' K hI hd hq hK
        have hg := hd 6 19 (by kernel_rfl)
        have e30 : a'.eval (.tmp 30) = .pointer (some ⟨p, 0, none⟩) := (hd 17 30 (by kernel_rfl))
        clear hd hq
        refine op_value (wanted_on _ a' 6 19 false (by rfl) (by rfl) hg) (v := .pointer (some ⟨p, 0, none⟩)) (w'' := w') ?_ (hK _ _ hI (fun _ _ h => h) rfl)
        clear hK
        simp only [execOp, e30]
        have f30 : a'.tmps[30]?.getD undef = .pointer (some ⟨p, 0, none⟩) := (Array.getD_eq_getD_getElem? ..).symm.trans e30
        clear e30
        first | rfl | (go_simp <;> exact IntWalk.i64_in _ (by omega))
      · intro a' w' K hI hd hq hK
        have hg := hd 6 19 (by kernel_rfl)
        have e31 : a'.eval (.tmp 31) = .pointer (some ⟨p, 0, none⟩) := (hd 18 31 (by kernel_rfl))
        clear hd hq
        refine op_value (wanted_on _ a' 6 19 false (by rfl) (by rfl) hg) (v := .pointer (some ⟨p, 1, none⟩)) (w'' := w') ?_ (hK _ _ hI (fun _ _ h => h) rfl)
        clear hK
        simp only [execOp, e31]
        have f31 : a'.tmps[31]?.getD undef = .pointer (some ⟨p, 0, none⟩) := (Array.getD_eq_getD_getElem? ..).symm.trans e31
        clear e31
        first | rfl | (go_simp <;> exact IntWalk.i64_in _ (by omega))
      · intro a' w' K hI hd hq hK
        have hg := hd 6 19 (by kernel_rfl)
        have e32 : a'.eval (.tmp 32) = .pointer (some ⟨p, 1, none⟩) := (hd 19 32 (by kernel_rfl))
        clear hd hq
        refine op_value (wanted_on _ a' 6 19 false (by rfl) (by rfl) hg) (v := .pointer (some ⟨p, 2, none⟩)) (w'' := w') ?_ (hK _ _ hI (fun _ _ h => h) rfl)
        clear hK
        simp only [execOp, e32]
        have f32 : a'.tmps[32]?.getD undef = .pointer (some ⟨p, 1, none⟩) := (Array.getD_eq_getD_getElem? ..).symm.trans e32
        clear e32
        first | rfl | (go_simp <;> exact IntWalk.i64_in _ (by omega))
      · intro a' w' K hI hd hq hK
        have hg := hd 6 19 (by kernel_rfl)
        have e33 : a'.eval (.tmp 33) = .pointer (some ⟨p, 2, none⟩) := (hd 20 33 (by kernel_rfl))
        clear hd hq
        have cx := cell_below hI P2
        refine op_value (wanted_on _ a' 6 19 false (by rfl) (by rfl) hg) (v := .int .i64 c0) (w'' := w') ?_ (hK _ _ hI (fun _ _ h => h) rfl)
        clear hK
        simp only [execOp, e33]
        have f33 : a'.tmps[33]?.getD undef = .pointer (some ⟨p, 2, none⟩) := (Array.getD_eq_getD_getElem? ..).symm.trans e33
        clear e33
        first | rfl | (go_simp <;> exact IntWalk.i64_in _ (by omega))
      · intro a' w' K hI hd hq hK
        have hg := hd 6 19 (by kernel_rfl)
        have e29 : a'.eval (.tmp 29) = .int .i64 nn := (hd 16 29 (by kernel_rfl))
        have e34 : a'.eval (.tmp 34) = .int .i64 c0 := (hd 21 34 (by kernel_rfl))
        clear hd hq
        refine op_call #[.int .i64 nn, .int .i64 c0] (wanted_on _ a' 6 19 false (by rfl) (by rfl) hg) rfl Try.func59 (by kernel_rfl) rfl (by simp [e29, e34]) ?_
        refine (compare_any nn c0 w').mono ?_
        rw [HS2.out]
        rintro e w6 ⟨rfl, rfl⟩
        exact ⟨_, rfl, hK _ _ hI (fun _ _ h => h) rfl⟩
      · intro a' w' K hI hd hq hK
        have hg := hd 6 19 (by kernel_rfl)
        have e8 : a'.eval (.tmp 8) = .pointer (some ⟨gf, 0, none⟩) := (hq 8 (by kernel_rfl)).trans rfl
        clear hd hq
        refine op_value (wanted_on _ a' 6 19 false (by rfl) (by rfl) hg) (v := .pointer (some ⟨gf, 2, none⟩)) (w'' := w') ?_ (hK _ _ hI (fun _ _ h => h) rfl)
        clear hK
        simp only [execOp, e8]
        have f8 : a'.tmps[8]?.getD undef = .pointer (some ⟨gf, 0, none⟩) := (Array.getD_eq_getD_getElem? ..).symm.trans e8
        clear e8
        first | rfl | (go_simp <;> exact IntWalk.i64_in _ (by omega))
      · intro a' w' K hI hd hq hK
        have hg := hd 6 19 (by kernel_rfl)
        have e36 : a'.eval (.tmp 36) = .pointer (some ⟨gf, 2, none⟩) := (hd 23 36 (by kernel_rfl))
        clear hd hq
        have cx := cell_below hI G2
        refine op_value (wanted_on _ a' 6 19 false (by rfl) (by rfl) hg) (v := .int .i64 aa) (w'' := w') ?_ (hK _ _ hI (fun _ _ h => h) rfl)
        clear hK
        simp only [execOp, e36]
        have f36 : a'.tmps[36]?.getD undef = .pointer (some ⟨gf, 2, none⟩) := (Array.getD_eq_getD_getElem? ..).symm.trans e36
        clear e36
        first | rfl | (go_simp <;> exact IntWalk.i64_in _ (by omega))
      · intro a' w' K hI hd hq hK
        have hg := hd 6 19 (by kernel_rfl)
        have e0 : a'.eval (.tmp 0) = .pointer (some ⟨p, 0, none⟩) := (hq 0 (by kernel_rfl)).trans rfl
        clear hd hq
        refine op_value (wanted_on _ a' 6 19 false (by rfl) (by rfl) hg) (v := .pointer (some ⟨p, 0, none⟩)) (w'' := w') ?_ (hK _ _ hI (fun _ _ h => h) rfl)
        clear hK
        simp only [execOp, e0]
        have f0 : a'.tmps[0]?.getD undef = .pointer (some ⟨p, 0, none⟩) := (Array.getD_eq_getD_getElem? ..).symm.trans e0
        clear e0
        first | rfl | (go_simp <;> exact IntWalk.i64_in _ (by omega))
      · intro a' w' K hI hd hq hK
        have hg := hd 6 19 (by kernel_rfl)
        have e38 : a'.eval (.tmp 38) = .pointer (some ⟨p, 0, none⟩) := (hd 25 38 (by kernel_rfl))
        clear hd hq
        refine op_value (wanted_on _ a' 6 19 false (by rfl) (by rfl) hg) (v := .pointer (some ⟨p, 0, none⟩)) (w'' := w') ?_ (hK _ _ hI (fun _ _ h => h) rfl)
        clear hK
        simp only [execOp, e38]
        have f38 : a'.tmps[38]?.getD undef = .pointer (some ⟨p, 0, none⟩) := (Array.getD_eq_getD_getElem? ..).symm.trans e38
        clear e38
        first | rfl | (go_simp <;> exact IntWalk.i64_in _ (by omega))
      · intro a' w' K hI hd hq hK
        have hg := hd 6 19 (by kernel_rfl)
        have e39 : a'.eval (.tmp 39) = .pointer (some ⟨p, 0, none⟩) := (hd 26 39 (by kernel_rfl))
        clear hd hq
        refine op_value (wanted_on _ a' 6 19 false (by rfl) (by rfl) hg) (v := .pointer (some ⟨p, 1, none⟩)) (w'' := w') ?_ (hK _ _ hI (fun _ _ h => h) rfl)
        clear hK
        simp only [execOp, e39]
        have f39 : a'.tmps[39]?.getD undef = .pointer (some ⟨p, 0, none⟩) := (Array.getD_eq_getD_getElem? ..).symm.trans e39
        clear e39
        first | rfl | (go_simp <;> exact IntWalk.i64_in _ (by omega))
      · intro a' w' K hI hd hq hK
        have hg := hd 6 19 (by kernel_rfl)
        have e40 : a'.eval (.tmp 40) = .pointer (some ⟨p, 1, none⟩) := (hd 27 40 (by kernel_rfl))
        clear hd hq
        refine op_value (wanted_on _ a' 6 19 false (by rfl) (by rfl) hg) (v := .pointer (some ⟨p, 3, none⟩)) (w'' := w') ?_ (hK _ _ hI (fun _ _ h => h) rfl)
        clear hK
        simp only [execOp, e40]
        have f40 : a'.tmps[40]?.getD undef = .pointer (some ⟨p, 1, none⟩) := (Array.getD_eq_getD_getElem? ..).symm.trans e40
        clear e40
        first | rfl | (go_simp <;> exact IntWalk.i64_in _ (by omega))
      · intro a' w' K hI hd hq hK
        have hg := hd 6 19 (by kernel_rfl)
        have e41 : a'.eval (.tmp 41) = .pointer (some ⟨p, 3, none⟩) := (hd 28 41 (by kernel_rfl))
        clear hd hq
        have cx := cell_below hI P3
        refine op_value (wanted_on _ a' 6 19 false (by rfl) (by rfl) hg) (v := .int .i64 a0) (w'' := w') ?_ (hK _ _ hI (fun _ _ h => h) rfl)
        clear hK
        simp only [execOp, e41]
        have f41 : a'.tmps[41]?.getD undef = .pointer (some ⟨p, 3, none⟩) := (Array.getD_eq_getD_getElem? ..).symm.trans e41
        clear e41
        first | rfl | (go_simp <;> exact IntWalk.i64_in _ (by omega))
      · intro a' w' K hI hd hq hK
        have hg := hd 6 19 (by kernel_rfl)
        have e37 : a'.eval (.tmp 37) = .int .i64 aa := (hd 24 37 (by kernel_rfl))
        have e42 : a'.eval (.tmp 42) = .int .i64 a0 := (hd 29 42 (by kernel_rfl))
        clear hd hq
        refine op_call #[.int .i64 aa, .int .i64 a0] (wanted_on _ a' 6 19 false (by rfl) (by rfl) hg) rfl Try.func59 (by kernel_rfl) rfl (by simp [e37, e42]) ?_
        refine (compare_any aa a0 w').mono ?_
        rw [HS3.out]
        rintro e w6 ⟨rfl, rfl⟩
        exact ⟨_, rfl, hK _ _ hI (fun _ _ h => h) rfl⟩
      · intro a' w' K hI hd hq hK
        have hg := hd 6 19 (by kernel_rfl)
        have e27 : a'.eval (.tmp 27) = .int .i64 s1 := (hd 14 27 (by kernel_rfl))
        have e35 : a'.eval (.tmp 35) = .int .i64 s2 := (hd 22 35 (by kernel_rfl))
        have e43 : a'.eval (.tmp 43) = .int .i64 s3 := (hd 30 43 (by kernel_rfl))
        clear hd hq
        have hb : Below w'.heap.size w' (w'.alloc (.cells #[.int .i64 s1, .int .i64 s2, .int .i64 s3] 3)) := (Below.refl _ _).alloc (Nat.le_refl _) _
        refine op_buildSlice (wanted_on _ a' 6 19 false (by rfl) (by rfl) hg) 22 3 3 _ rfl Try.underlying22 #[.int .i64 s1, .int .i64 s2, .int .i64 s3] (by simp only [List.map_toArray, List.map_cons, List.map_nil, e27, e35, e43]; exact HB3.out) ?_
        have hn := heap_alloc_new w' (.cells #[.int .i64 s1, .int .i64 s2, .int .i64 s3] 3)
        exact hK _ _ (below_below hI hI.size hb) (fun j u => by match j with | 31 => exact fun ⟨g, h0, h1, h2, h3⟩ => ⟨g, h0, cell_below hb h1, cell_below hb h2, cell_below hb h3⟩ | 0 | 1 | 2 | 3 | 4 | 5 | 6 | 7 | 8 | 9 | 10 | 11 | 12 | 13 | 14 | 15 | 16 | 17 | 18 | 19 | 20 | 21 | 22 | 23 | 24 | 25 | 26 | 27 | 28 | 29 | 30 | 32 | 33 | 34 => exact fun h => h | _ + 35 => exact fun _ => trivial) ⟨w'.heap.size, rfl, (cell_of_row _ _ 0 _ _ _ hn).trans rfl, (cell_of_row _ _ 1 _ _ _ hn).trans rfl, (cell_of_row _ _ 2 _ _ _ hn).trans rfl⟩
      · intro a' w' K hI hd hq hK
        have hg := hd 6 19 (by kernel_rfl)
        have e44 := hd 31 44 (by kernel_rfl)
        clear hd hq
        obtain ⟨g, e44, q0, q1, q2⟩ := (show ∃ g, a'.eval (.tmp 44) = .slice (some ⟨g, 0, none⟩) 3 3 ∧ w'.cell? ⟨g, 0, none⟩ = some (.int .i64 s1) ∧ w'.cell? ⟨g, 1, none⟩ = some (.int .i64 s2) ∧ w'.cell? ⟨g, 2, none⟩ = some (.int .i64 s3) from e44)
        refine op_call #[.slice (some ⟨g, 0, none⟩) 3 3] (wanted_on _ a' 6 19 false (by rfl) (by rfl) hg) rfl Try.func58 (by kernel_rfl) rfl (by simp [e44]) ?_
        refine (or_any g s1 s2 s3 w' q0 q1 q2).mono ?_
        rw [HSO.out]
        rintro e w6 ⟨rfl, rfl⟩
        exact ⟨_, rfl, hK _ _ hI (fun _ _ h => h) rfl⟩
      · intro a' w' K hI hd hq hK
        have hg := hd 6 19 (by kernel_rfl)
        have e45 : a'.eval (.tmp 45) = .int .i64 so := (hd 32 45 (by kernel_rfl))
        clear hd hq
        refine op_value (wanted_on _ a' 6 19 false (by rfl) (by rfl) hg) (v := .bool bb) (w'' := w') ?_ (hK _ _ hI (fun _ _ h => h) rfl)
        clear hK hI
        simp only [execOp]
        have f45 : a'.tmps[45]?.getD undef = .int .i64 so := (Array.getD_eq_getD_getElem? ..).symm.trans e45
        clear e45
        go_simp
        rw [HBB.out]
      · intro a' w' K hI hd hq hK
        have e19 : a'.eval (.tmp 19) = .bool false := (hd 6 19 (by kernel_rfl))
        have e46 : a'.eval (.tmp 46) = .bool bb := (hd 33 46 (by kernel_rfl))
        clear hd hq
        refine op_value (wanted_free _ _ (by rfl)) (v := .bool bb) (w'' := w') ?_ (hK _ _ hI (fun _ _ h => h) rfl)
        clear hK
        simp only [execOp, e19, e46]
        have f19 : a'.tmps[19]?.getD undef = .bool false := (Array.getD_eq_getD_getElem? ..).symm.trans e19
        have f46 : a'.tmps[46]?.getD undef = .bool bb := (Array.getD_eq_getD_getElem? ..).symm.trans e46
        clear e19 e46
        first | rfl | (go_simp <;> exact IntWalk.i64_in _ (by omega))
    case fin1 =>
      rintro w' hI _ rfl _ rfl _ rfl _ rfl _ rfl _ rfl _ rfl _ rfl _ rfl _ rfl _ rfl _ rfl _ rfl _ rfl _ rfl _ rfl _ rfl _ rfl _ rfl _ rfl _ rfl _ rfl _ rfl _ rfl _ rfl _ rfl _ rfl _ rfl _ rfl _ rfl _ rfl _ ⟨gg, rfl, _⟩ _ rfl _ rfl _ rfl
      simp only [Act.put, List.setIfInBounds_toArray, List.set_cons_zero, List.set_cons_succ, FinGoal]
      have HI := Lib.hid hI
      have hfz := (FIN.out _ hI).1
      have d1 := cell_below hI P1
      have d2 := cell_below hI P2
      have d3 := cell_below hI P3
      have e0 := cell_below hI G0
      have e1 := cell_below hI G1
      have e2 := cell_below hI G2
      have f1 := hfz 1
      have f2 := hfz 2
      have f3 := hfz 3
      clear hI hfz P1 P2 P3 G0 G1 G2
      cases bb with
      | true =>
        go_wp2_with fail
        go_end0
        obtain ⟨h1, h2⟩ := HFI.out _ HI.out _ rfl
        exact ⟨rfl, by rw [HBE.out, if_pos (of_decide_eq_true HBB.out)]; exact h1, h2⟩
      | false =>
        go_wp2_with fail
        go_end0
        exact ⟨rfl, by rw [HBE.out, if_neg (of_decide_eq_false HBB.out)]; exact (FIN.out _ HI.out).2.1, HUP.out _ HI.out⟩
end Go.Proofs.Ytjakhemolecbnaa
end
