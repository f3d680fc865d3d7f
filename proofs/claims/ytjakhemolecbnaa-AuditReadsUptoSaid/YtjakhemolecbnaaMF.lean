/-
  The texts Prefixes, VerDefs, OutlineW, Verify, VerP of this proof in one: what each proves is said at its head. No conditions beyond those that each theorem says.
-/
import Derived.Test.YtjakhemolecbnaaME

/-
  The walk of the verifier's prefixes.
-/
section
set_option linter.unusedVariables false
set_option linter.unusedSimpArgs false
namespace Go.Proofs.Ytjakhemolecbnaa
open Go.RowKit

theorem bestOf_idem (b f : Int × Int × Int) : bestOf (bestOf b f) f = bestOf b f := by
  have h0 : ∀ x : Int × Int × Int, bestOf x x = x := fun x => by unfold bestOf; split <;> rfl
  by_cases h : b.1 = 0 ∨ orOf (sgnOf f.1 b.1) (sgnOf f.2.1 b.2.1) (sgnOf f.2.2 b.2.2) < 0
  · have e : bestOf b f = f := if_pos h
    rw [e, h0]
  · have e : bestOf b f = b := if_neg h
    rw [e, e]
theorem VF.cellsAt {w : World} {p bv ov vc : Nat} {cs : List Cm} {b : Int × Int × Int} (h : VF w p (some ⟨bv, ov, none⟩) vc cs b) {i : Nat} {c : Cm} (hc : cs[i]? = some c) : w.cell? ⟨bv, ov + i * 6, none⟩ = some (.int .i64 c.group) ∧ w.cell? ⟨bv, ov + i * 6 + 1, none⟩ = some (.slice c.lA c.M.length c.lc) ∧ w.cell? ⟨bv, ov + i * 6 + 2, none⟩ = some (.bool c.lt) ∧ w.cell? ⟨bv, ov + i * 6 + 3, none⟩ = some (.slice c.rA c.recs.length c.rc) ∧ w.cell? ⟨bv, ov + i * 6 + 4, none⟩ = some (.bool c.whole) ∧ w.cell? ⟨bv, ov + i * 6 + 5, none⟩ = some (.int .i64 c.en) := by
  obtain ⟨bv', ov', e, hp⟩ := h.part hc
  cases e
  exact hp w (Below.refl _ _)
theorem foldl_range_snoc {α : Type} (f : α → Nat → α) (b : α) (j : Nat) : (List.range (j + 1)).foldl f b = f ((List.range j).foldl f b) j := by rw [List.range_succ, List.foldl_append]; rfl
def pfx (cs : List Cm) (c : Cm) (i : Nat) (b : Int × Int × Int) (j : Nat) : Int × Int × Int := match cs[j]? with
  | some d => if d.whole = true ∧ d.group = c.group ∧ ¬ d.M.take (min d.M.length c.M.length) = c.M.take (min d.M.length c.M.length) then bestOf b (3, (i : Int), (unlikeS d.M c.M : Int)) else b
  | none => b
def prefixesB (cs : List Cm) (c : Cm) (i : Nat) (b : Int × Int × Int) : Int × Int × Int := (List.range i).foldl (pfx cs c i) b

set_option maxRecDepth 100000 in
set_option maxHeartbeats 8000000 in
theorem prefixes_any (p : Nat) (vA : Option Addr) (vc : Nat) (cs : List Cm) (b : Int × Int × Int) (i : Nat) (c : Cm) (w : World) (h : VF w p vA vc cs b) (hc : cs[i]? = some c) (hv : cs.length ≤ vc) :
    Calls Try.prog 33 #[.pointer (some ⟨p, 0, none⟩), .int .i64 (i : Int)] w fun e w' => e = .returned (.tuple #[]) ∧ VF w' p vA vc cs (prefixesB cs c i b) ∧ Upd (fun k => k = p) w w' := by
  have hi := (List.getElem?_eq_some_iff.1 hc).1
  have k0 := h.c0
  have hln := h.len
  have i0 : (0 : Int) ≤ (i : Int) := by omega
  have i1 : (i : Int) ≤ (vc : Int) := by omega
  have i2 : (i : Int) < (cs.length : Int) := by omega
  have HV := Lib.hid h
  have HC := Lib.hid hc
  have HI := Lib.hid hi
  clear h hc hv hi
  go_enter Try.func33, Try.ntmps33
  go_wp2_with fail
  go_loopg [13] i (fun k s13 wr => ∃ j : Nat, j ≤ i ∧ k = i - j ∧ s13 = .int .i64 (j : Int) ∧ (VF wr p vA vc cs ((List.range j).foldl (pfx cs c i) b) ∧ Upd (fun k => k = p) w wr))
  case atStart => exact ⟨0, Nat.zero_le _, by omega, rfl, HV.out, Upd.refl _ _⟩
  case round =>
    obtain ⟨j, hj, hk, rfl, hvf, hu⟩ := hrel
    have HK := Lib.hid hk
    have HU := Lib.hid hu
    by_cases hlt : j < i
    · obtain ⟨d, hd⟩ : ∃ d, cs[j]? = some d := ⟨_, List.getElem?_eq_getElem (by have := HI.out; omega)⟩
      obtain ⟨bv, ov, rfl, hp⟩ := hvf.part hd
      obtain ⟨q0, q1, q2, q3, q4, q5⟩ := hp wr (Below.refl _ _)
      have HVF := Lib.hid hvf
      have HLT := Lib.hid hlt
      have j0 : (0 : Int) ≤ (j : Int) := by omega
      have j1 : (j : Int) < (i : Int) := by omega
      have j2 : (j : Int) < (cs.length : Int) := by omega
      have hb2 : Below wr.heap.size wr (wr.alloc (.cells d.cells.toArray 73)) := (Below.refl _ _).alloc (Nat.le_refl _) _
      have hbx := heap_alloc_new wr (.cells d.cells.toArray 73)
      obtain ⟨w2, hw2⟩ : ∃ w2, w2 = wr.alloc (.cells d.cells.toArray 73) := ⟨_, rfl⟩
      rw [← hw2] at hb2 hbx
      obtain ⟨B, hB⟩ : ∃ B, B = (List.range j).foldl (pfx cs c i) b := ⟨_, rfl⟩
      rw [← hB] at HVF
      have hBs : (List.range (j + 1)).foldl (pfx cs c i) b = pfx cs c i B j := by rw [hB, foldl_range_snoc]
      have HV2 := Lib.hid (HVF.out.below hb2)
      have HW2 := Lib.hid hw2
      have HD := Lib.hid hd
      have cfd := HVF.out.cf d (List.mem_of_getElem? hd)
      have cfc := HVF.out.cf c (List.mem_of_getElem? HC.out)
      have FD := Lib.hid (show d.M.length ≤ 100000 ∧ c.M.length ≤ 100000 ∧ (∀ x ∈ d.M, x.2.length = 32) ∧ (∀ x ∈ c.M, x.2.length = 32) ∧ (∀ x ∈ d.M, x.1.length ≤ 1000000) ∧ (∀ x ∈ c.M, x.1.length ≤ 1000000) from ⟨Nat.le_trans cfd.lM (by decide), Nat.le_trans cfc.lM (by decide), cfd.hh, cfc.hh, fun x hx => Nat.le_trans (cfd.ht x hx) (by decide), fun x hx => Nat.le_trans (cfc.ht x hx) (by decide)⟩)
      have HUW := Lib.hid (show Upd (fun k => k = p) w w2 from HU.out.below hb2)
      have hpx : pfx cs c i B j = if d.whole = true ∧ d.group = c.group ∧ ¬ d.M.take (min d.M.length c.M.length) = c.M.take (min d.M.length c.M.length) then bestOf B (3, (i : Int), (unlikeS d.M c.M : Int)) else B := by unfold pfx; rw [hd]
      obtain ⟨q, hq⟩ : ∃ q, decide (d.M.take (min d.M.length c.M.length) = c.M.take (min d.M.length c.M.length)) = q := ⟨_, rfl⟩
      have HQ := Lib.hid hq
      obtain ⟨uu, huu⟩ : ∃ uu, unlikeS d.M c.M = uu := ⟨_, rfl⟩
      rw [huu] at hpx
      have HUU := Lib.hid huu
      have D0 : w2.cell? ⟨wr.heap.size, 0, none⟩ = some (.int .i64 d.group) := (cell_of_row w2 _ 0 _ _ _ hbx).trans rfl
      have D1 : w2.cell? ⟨wr.heap.size, 1, none⟩ = some (.slice d.lA d.M.length d.lc) := (cell_of_row w2 _ 1 _ _ _ hbx).trans rfl
      have D4 : w2.cell? ⟨wr.heap.size, 4, none⟩ = some (.bool d.whole) := (cell_of_row w2 _ 4 _ _ _ hbx).trans rfl
      obtain ⟨gd, hgd⟩ : ∃ gd, gd = wr.heap.size := ⟨_, rfl⟩
      have hgp : ¬ gd = p := by have := HVF.out.lt; omega
      have hgs : gd < w2.heap.size := by rw [hw2, hgd]; simp
      rw [← hgd] at D0 D1 D4
      have HGD := Lib.hid hgd
      have HGP := Lib.hid hgp
      have HGS := Lib.hid hgs
      have HR := Lib.hid (show ∀ W, VF W p (some ⟨bv, ov, none⟩) vc cs (pfx cs c i B j) → Upd (fun k => k = p) w2 W → ∃ j', j' ≤ i ∧ i - (j + 1) = i - j' ∧ (Value.int .i64 ((j + 1 : Nat) : Int)) = .int .i64 (j' : Int) ∧ (VF W p (some ⟨bv, ov, none⟩) vc cs ((List.range j').foldl (pfx cs c i) b) ∧ Upd (fun k => k = p) w W) from fun W h1 h2 => ⟨j + 1, HLT.out, rfl, rfl, by rw [hBs]; exact h1, HUW.out.trans h2 (fun _ _ h => h)⟩)
      clear hk hu hvf hj hlt hb2 hbx hw2 hB hBs hd cfd cfc hq huu hgd hgp hgs hp
      go_upto_region 3 with fail
      rw [show wr.alloc (.cells #[.int .i64 d.group, .slice d.lA d.M.length d.lc, .bool d.lt, .slice d.rA d.recs.length d.rc, .bool d.whole, .int .i64 d.en] 73) = w2 from HW2.out.symm, ← HGD.out]
      by_cases hwh : d.whole = true
      · rw [hwh] at D4
        by_cases hgr : d.group = c.group
        · have hgr1 : (d.group == c.group) = true := by simpa using hgr
          have HPX := Lib.hid (show pfx cs c i B j = if q = true then B else bestOf B (3, (i : Int), (uu : Int)) by
            rw [hpx]
            cases q with
            | true => rw [if_neg (fun h => h.2.2 (of_decide_eq_true HQ.out)), if_pos rfl]
            | false => rw [if_pos ⟨hwh, hgr, of_decide_eq_false HQ.out⟩, if_neg (by decide)])
          clear hpx hwh hgr
          refine region_by (fun W => Below w2.heap.size w2 W) [(fun v _ => v = .pointer (some ⟨gd, 4, none⟩)), (fun v _ => v = .bool true), (fun v _ => v = .bool true), (fun v _ => v = .pointer (some ⟨gd, 0, none⟩)), (fun v _ => v = .int .i64 d.group), (fun v _ => v = .pointer (some ⟨p, 0, none⟩)), (fun v _ => v = .pointer (some ⟨p, 0, none⟩)), (fun v _ => v = .pointer (some ⟨p, 0, none⟩)), (fun v _ => v = .slice (some ⟨bv, ov, none⟩) cs.length vc), (fun v _ => v = .int .i64 (i : Int)), (fun v _ => v = .pointer (some ⟨bv, ov + i * 6, none⟩)), (fun v _ => v = .pointer (some ⟨bv, ov + i * 6, none⟩)), (fun v _ => v = .int .i64 c.group), (fun v _ => v = .bool true), (fun v _ => v = .bool true), (fun v _ => v = .bool true), (fun v _ => v = .pointer (some ⟨gd, 1, none⟩)), (fun v _ => v = .slice d.lA d.M.length d.lc), (fun v _ => v = .pointer (some ⟨p, 0, none⟩)), (fun v _ => v = .pointer (some ⟨p, 0, none⟩)), (fun v _ => v = .pointer (some ⟨p, 0, none⟩)), (fun v _ => v = .slice (some ⟨bv, ov, none⟩) cs.length vc), (fun v _ => v = .int .i64 (i : Int)), (fun v _ => v = .pointer (some ⟨bv, ov + i * 6, none⟩)), (fun v _ => v = .pointer (some ⟨bv, ov + i * 6 + 1, none⟩)), (fun v _ => v = .slice c.lA c.M.length c.lc), fun v _ => v = .bool q, (fun v _ => v = .bool (!q)), (fun v _ => v = .bool (!q))] (by kernel_rfl) (by kernel_rfl) (by kernel_rfl) rfl ((Below.refl _ _).drew) ?ok3 ?fin3
          case ok3 =>
            refine ⟨?_, ?_, ?_, ?_, ?_, ?_, ?_, ?_, ?_, ?_, ?_, ?_, ?_, ?_, ?_, ?_, ?_, ?_, ?_, ?_, ?_, ?_, ?_, ?_, ?_, ?_, ?_, ?_, ?_, trivial⟩
            · intro a' w' K hI hd hq hK
              have e5 : a'.eval (.tmp 5) = .pointer (some ⟨gd, 0, none⟩) := (hq 5 (by kernel_rfl)).trans rfl
              clear hd hq
              refine op_value (wanted_free _ _ (by rfl)) (v := .pointer (some ⟨gd, 4, none⟩)) (w'' := w') ?_ (hK _ _ hI (fun _ _ h => h) rfl)
              clear hK
              simp only [execOp, e5]
              have f5 : a'.tmps[5]?.getD undef = .pointer (some ⟨gd, 0, none⟩) := (Array.getD_eq_getD_getElem? ..).symm.trans e5
              clear e5
              first | rfl | (go_simp <;> exact IntWalk.i64_in _ (by omega))
            · intro a' w' K hI hd hq hK
              have e17 : a'.eval (.tmp 17) = .pointer (some ⟨gd, 4, none⟩) := (hd 0 17 (by kernel_rfl))
              clear hd hq
              have cx := cell_below hI D4
              refine op_value (wanted_free _ _ (by rfl)) (v := .bool true) (w'' := w') ?_ (hK _ _ hI (fun _ _ h => h) rfl)
              clear hK
              simp only [execOp, e17]
              have f17 : a'.tmps[17]?.getD undef = .pointer (some ⟨gd, 4, none⟩) := (Array.getD_eq_getD_getElem? ..).symm.trans e17
              clear e17
              first | rfl | (go_simp <;> exact IntWalk.i64_in _ (by omega))
            · intro a' w' K hI hd hq hK
              have e18 : a'.eval (.tmp 18) = .bool true := (hd 1 18 (by kernel_rfl))
              clear hd hq
              refine op_value (wanted_free _ _ (by rfl)) (v := .bool true) (w'' := w') ?_ (hK _ _ hI (fun _ _ h => h) rfl)
              clear hK
              simp only [execOp, e18]
              have f18 : a'.tmps[18]?.getD undef = .bool true := (Array.getD_eq_getD_getElem? ..).symm.trans e18
              clear e18
              first | rfl | (go_simp <;> exact IntWalk.i64_in _ (by omega))
            · intro a' w' K hI hd hq hK
              have hg := hd 2 19 (by kernel_rfl)
              have e5 : a'.eval (.tmp 5) = .pointer (some ⟨gd, 0, none⟩) := (hq 5 (by kernel_rfl)).trans rfl
              clear hd hq
              refine op_value (wanted_on _ a' 2 19 true (by rfl) (by rfl) hg) (v := .pointer (some ⟨gd, 0, none⟩)) (w'' := w') ?_ (hK _ _ hI (fun _ _ h => h) rfl)
              clear hK
              simp only [execOp, e5]
              have f5 : a'.tmps[5]?.getD undef = .pointer (some ⟨gd, 0, none⟩) := (Array.getD_eq_getD_getElem? ..).symm.trans e5
              clear e5
              first | rfl | (go_simp <;> exact IntWalk.i64_in _ (by omega))
            · intro a' w' K hI hd hq hK
              have hg := hd 2 19 (by kernel_rfl)
              have e20 : a'.eval (.tmp 20) = .pointer (some ⟨gd, 0, none⟩) := (hd 3 20 (by kernel_rfl))
              clear hd hq
              have cx := cell_below hI D0
              refine op_value (wanted_on _ a' 2 19 true (by rfl) (by rfl) hg) (v := .int .i64 d.group) (w'' := w') ?_ (hK _ _ hI (fun _ _ h => h) rfl)
              clear hK
              simp only [execOp, e20]
              have f20 : a'.tmps[20]?.getD undef = .pointer (some ⟨gd, 0, none⟩) := (Array.getD_eq_getD_getElem? ..).symm.trans e20
              clear e20
              first | rfl | (go_simp <;> exact IntWalk.i64_in _ (by omega))
            · intro a' w' K hI hd hq hK
              have hg := hd 2 19 (by kernel_rfl)
              have e0 : a'.eval (.tmp 0) = .pointer (some ⟨p, 0, none⟩) := (hq 0 (by kernel_rfl)).trans rfl
              clear hd hq
              refine op_value (wanted_on _ a' 2 19 true (by rfl) (by rfl) hg) (v := .pointer (some ⟨p, 0, none⟩)) (w'' := w') ?_ (hK _ _ hI (fun _ _ h => h) rfl)
              clear hK
              simp only [execOp, e0]
              have f0 : a'.tmps[0]?.getD undef = .pointer (some ⟨p, 0, none⟩) := (Array.getD_eq_getD_getElem? ..).symm.trans e0
              clear e0
              first | rfl | (go_simp <;> exact IntWalk.i64_in _ (by omega))
            · intro a' w' K hI hd hq hK
              have hg := hd 2 19 (by kernel_rfl)
              have e22 : a'.eval (.tmp 22) = .pointer (some ⟨p, 0, none⟩) := (hd 5 22 (by kernel_rfl))
              clear hd hq
              refine op_value (wanted_on _ a' 2 19 true (by rfl) (by rfl) hg) (v := .pointer (some ⟨p, 0, none⟩)) (w'' := w') ?_ (hK _ _ hI (fun _ _ h => h) rfl)
              clear hK
              simp only [execOp, e22]
              have f22 : a'.tmps[22]?.getD undef = .pointer (some ⟨p, 0, none⟩) := (Array.getD_eq_getD_getElem? ..).symm.trans e22
              clear e22
              first | rfl | (go_simp <;> exact IntWalk.i64_in _ (by omega))
            · intro a' w' K hI hd hq hK
              have hg := hd 2 19 (by kernel_rfl)
              have e23 : a'.eval (.tmp 23) = .pointer (some ⟨p, 0, none⟩) := (hd 6 23 (by kernel_rfl))
              clear hd hq
              refine op_value (wanted_on _ a' 2 19 true (by rfl) (by rfl) hg) (v := .pointer (some ⟨p, 0, none⟩)) (w'' := w') ?_ (hK _ _ hI (fun _ _ h => h) rfl)
              clear hK
              simp only [execOp, e23]
              have f23 : a'.tmps[23]?.getD undef = .pointer (some ⟨p, 0, none⟩) := (Array.getD_eq_getD_getElem? ..).symm.trans e23
              clear e23
              first | rfl | (go_simp <;> exact IntWalk.i64_in _ (by omega))
            · intro a' w' K hI hd hq hK
              have hg := hd 2 19 (by kernel_rfl)
              have e24 : a'.eval (.tmp 24) = .pointer (some ⟨p, 0, none⟩) := (hd 7 24 (by kernel_rfl))
              clear hd hq
              have cx := (HV2.out.below hI).c0
              refine op_value (wanted_on _ a' 2 19 true (by rfl) (by rfl) hg) (v := .slice (some ⟨bv, ov, none⟩) cs.length vc) (w'' := w') ?_ (hK _ _ hI (fun _ _ h => h) rfl)
              clear hK
              simp only [execOp, e24]
              have f24 : a'.tmps[24]?.getD undef = .pointer (some ⟨p, 0, none⟩) := (Array.getD_eq_getD_getElem? ..).symm.trans e24
              clear e24
              first | rfl | (go_simp <;> exact IntWalk.i64_in _ (by omega))
            · intro a' w' K hI hd hq hK
              have hg := hd 2 19 (by kernel_rfl)
              have e1 : a'.eval (.tmp 1) = .int .i64 (i : Int) := (hq 1 (by kernel_rfl)).trans rfl
              clear hd hq
              refine op_value (wanted_on _ a' 2 19 true (by rfl) (by rfl) hg) (v := .int .i64 (i : Int)) (w'' := w') ?_ (hK _ _ hI (fun _ _ h => h) rfl)
              clear hK
              simp only [execOp, e1]
              have f1 : a'.tmps[1]?.getD undef = .int .i64 (i : Int) := (Array.getD_eq_getD_getElem? ..).symm.trans e1
              clear e1
              first | rfl | (go_simp <;> exact IntWalk.i64_in _ (by omega))
            · intro a' w' K hI hd hq hK
              have hg := hd 2 19 (by kernel_rfl)
              have e25 : a'.eval (.tmp 25) = .slice (some ⟨bv, ov, none⟩) cs.length vc := (hd 8 25 (by kernel_rfl))
              have e26 : a'.eval (.tmp 26) = .int .i64 (i : Int) := (hd 9 26 (by kernel_rfl))
              clear hd hq
              refine op_value (wanted_on _ a' 2 19 true (by rfl) (by rfl) hg) (v := .pointer (some ⟨bv, ov + i * 6, none⟩)) (w'' := w') ?_ (hK _ _ hI (fun _ _ h => h) rfl)
              clear hK
              simp only [execOp, e25, e26]
              have f25 : a'.tmps[25]?.getD undef = .slice (some ⟨bv, ov, none⟩) cs.length vc := (Array.getD_eq_getD_getElem? ..).symm.trans e25
              have f26 : a'.tmps[26]?.getD undef = .int .i64 (i : Int) := (Array.getD_eq_getD_getElem? ..).symm.trans e26
              clear e25 e26
              first | rfl | (go_simp <;> exact IntWalk.i64_in _ (by omega))
            · intro a' w' K hI hd hq hK
              have hg := hd 2 19 (by kernel_rfl)
              have e27 : a'.eval (.tmp 27) = .pointer (some ⟨bv, ov + i * 6, none⟩) := (hd 10 27 (by kernel_rfl))
              clear hd hq
              refine op_value (wanted_on _ a' 2 19 true (by rfl) (by rfl) hg) (v := .pointer (some ⟨bv, ov + i * 6, none⟩)) (w'' := w') ?_ (hK _ _ hI (fun _ _ h => h) rfl)
              clear hK
              simp only [execOp, e27]
              have f27 : a'.tmps[27]?.getD undef = .pointer (some ⟨bv, ov + i * 6, none⟩) := (Array.getD_eq_getD_getElem? ..).symm.trans e27
              clear e27
              first | rfl | (go_simp <;> exact IntWalk.i64_in _ (by omega))
            · intro a' w' K hI hd hq hK
              have hg := hd 2 19 (by kernel_rfl)
              have e28 : a'.eval (.tmp 28) = .pointer (some ⟨bv, ov + i * 6, none⟩) := (hd 11 28 (by kernel_rfl))
              clear hd hq
              have cx := ((HV2.out.below hI).cellsAt HC.out).1
              refine op_value (wanted_on _ a' 2 19 true (by rfl) (by rfl) hg) (v := .int .i64 c.group) (w'' := w') ?_ (hK _ _ hI (fun _ _ h => h) rfl)
              clear hK
              simp only [execOp, e28]
              have f28 : a'.tmps[28]?.getD undef = .pointer (some ⟨bv, ov + i * 6, none⟩) := (Array.getD_eq_getD_getElem? ..).symm.trans e28
              clear e28
              first | rfl | (go_simp <;> exact IntWalk.i64_in _ (by omega))
            · intro a' w' K hI hd hq hK
              have hg := hd 2 19 (by kernel_rfl)
              have e21 : a'.eval (.tmp 21) = .int .i64 d.group := (hd 4 21 (by kernel_rfl))
              have e29 : a'.eval (.tmp 29) = .int .i64 c.group := (hd 12 29 (by kernel_rfl))
              clear hd hq
              refine op_value (wanted_on _ a' 2 19 true (by rfl) (by rfl) hg) (v := .bool true) (w'' := w') ?_ (hK _ _ hI (fun _ _ h => h) rfl)
              clear hK
              simp only [execOp, e21, e29]
              have f21 : a'.tmps[21]?.getD undef = .int .i64 d.group := (Array.getD_eq_getD_getElem? ..).symm.trans e21
              have f29 : a'.tmps[29]?.getD undef = .int .i64 c.group := (Array.getD_eq_getD_getElem? ..).symm.trans e29
              clear e21 e29
              first | rfl | (go_simp <;> exact IntWalk.i64_in _ (by omega))
            · intro a' w' K hI hd hq hK
              have e19 : a'.eval (.tmp 19) = .bool true := (hd 2 19 (by kernel_rfl))
              have e30 : a'.eval (.tmp 30) = .bool true := (hd 13 30 (by kernel_rfl))
              clear hd hq
              refine op_value (wanted_free _ _ (by rfl)) (v := .bool true) (w'' := w') ?_ (hK _ _ hI (fun _ _ h => h) rfl)
              clear hK
              simp only [execOp, e19, e30]
              have f19 : a'.tmps[19]?.getD undef = .bool true := (Array.getD_eq_getD_getElem? ..).symm.trans e19
              have f30 : a'.tmps[30]?.getD undef = .bool true := (Array.getD_eq_getD_getElem? ..).symm.trans e30
              clear e19 e30
              first | rfl | (go_simp <;> exact IntWalk.i64_in _ (by omega))
            · intro a' w' K hI hd hq hK
              have e31 : a'.eval (.tmp 31) = .bool true := (hd 14 31 (by kernel_rfl))
              clear hd hq
              refine op_value (wanted_free _ _ (by rfl)) (v := .bool true) (w'' := w') ?_ (hK _ _ hI (fun _ _ h => h) rfl)
              clear hK
              simp only [execOp, e31]
              have f31 : a'.tmps[31]?.getD undef = .bool true := (Array.getD_eq_getD_getElem? ..).symm.trans e31
              clear e31
              first | rfl | (go_simp <;> exact IntWalk.i64_in _ (by omega))
            · intro a' w' K hI hd hq hK
              have hg := hd 15 32 (by kernel_rfl)
              have e5 : a'.eval (.tmp 5) = .pointer (some ⟨gd, 0, none⟩) := (hq 5 (by kernel_rfl)).trans rfl
              clear hd hq
              refine op_value (wanted_on _ a' 15 32 true (by rfl) (by rfl) hg) (v := .pointer (some ⟨gd, 1, none⟩)) (w'' := w') ?_ (hK _ _ hI (fun _ _ h => h) rfl)
              clear hK
              simp only [execOp, e5]
              have f5 : a'.tmps[5]?.getD undef = .pointer (some ⟨gd, 0, none⟩) := (Array.getD_eq_getD_getElem? ..).symm.trans e5
              clear e5
              first | rfl | (go_simp <;> exact IntWalk.i64_in _ (by omega))
            · intro a' w' K hI hd hq hK
              have hg := hd 15 32 (by kernel_rfl)
              have e33 : a'.eval (.tmp 33) = .pointer (some ⟨gd, 1, none⟩) := (hd 16 33 (by kernel_rfl))
              clear hd hq
              have cx := cell_below hI D1
              refine op_value (wanted_on _ a' 15 32 true (by rfl) (by rfl) hg) (v := .slice d.lA d.M.length d.lc) (w'' := w') ?_ (hK _ _ hI (fun _ _ h => h) rfl)
              clear hK
              simp only [execOp, e33]
              have f33 : a'.tmps[33]?.getD undef = .pointer (some ⟨gd, 1, none⟩) := (Array.getD_eq_getD_getElem? ..).symm.trans e33
              clear e33
              first | rfl | (go_simp <;> exact IntWalk.i64_in _ (by omega))
            · intro a' w' K hI hd hq hK
              have hg := hd 15 32 (by kernel_rfl)
              have e0 : a'.eval (.tmp 0) = .pointer (some ⟨p, 0, none⟩) := (hq 0 (by kernel_rfl)).trans rfl
              clear hd hq
              refine op_value (wanted_on _ a' 15 32 true (by rfl) (by rfl) hg) (v := .pointer (some ⟨p, 0, none⟩)) (w'' := w') ?_ (hK _ _ hI (fun _ _ h => h) rfl)
              clear hK
              simp only [execOp, e0]
              have f0 : a'.tmps[0]?.getD undef = .pointer (some ⟨p, 0, none⟩) := (Array.getD_eq_getD_getElem? ..).symm.trans e0
              clear e0
              first | rfl | (go_simp <;> exact IntWalk.i64_in _ (by omega))
            · intro a' w' K hI hd hq hK
              have hg := hd 15 32 (by kernel_rfl)
              have e35 : a'.eval (.tmp 35) = .pointer (some ⟨p, 0, none⟩) := (hd 18 35 (by kernel_rfl))
              clear hd hq
              refine op_value (wanted_on _ a' 15 32 true (by rfl) (by rfl) hg) (v := .pointer (some ⟨p, 0, none⟩)) (w'' := w') ?_ (hK _ _ hI (fun _ _ h => h) rfl)
              clear hK
              simp only [execOp, e35]
              have f35 : a'.tmps[35]?.getD undef = .pointer (some ⟨p, 0, none⟩) := (Array.getD_eq_getD_getElem? ..).symm.trans e35
              clear e35
              first | rfl | (go_simp <;> exact IntWalk.i64_in _ (by omega))
            · intro a' w' K hI hd hq hK
              have hg := hd 15 32 (by kernel_rfl)
              have e36 : a'.eval (.tmp 36) = .pointer (some ⟨p, 0, none⟩) := (hd 19 36 (by kernel_rfl))
              clear hd hq
              refine op_value (wanted_on _ a' 15 32 true (by rfl) (by rfl) hg) (v := .pointer (some ⟨p, 0, none⟩)) (w'' := w') ?_ (hK _ _ hI (fun _ _ h => h) rfl)
              clear hK
              simp only [execOp, e36]
              have f36 : a'.tmps[36]?.getD undef = .pointer (some ⟨p, 0, none⟩) := (Array.getD_eq_getD_getElem? ..).symm.trans e36
              clear e36
              first | rfl | (go_simp <;> exact IntWalk.i64_in _ (by omega))
            · intro a' w' K hI hd hq hK
              have hg := hd 15 32 (by kernel_rfl)
              have e37 : a'.eval (.tmp 37) = .pointer (some ⟨p, 0, none⟩) := (hd 20 37 (by kernel_rfl))
              clear hd hq
              have cx := (HV2.out.below hI).c0
              refine op_value (wanted_on _ a' 15 32 true (by rfl) (by rfl) hg) (v := .slice (some ⟨bv, ov, none⟩) cs.length vc) (w'' := w') ?_ (hK _ _ hI (fun _ _ h => h) rfl)
              clear hK
              simp only [execOp, e37]
              have f37 : a'.tmps[37]?.getD undef = .pointer (some ⟨p, 0, none⟩) := (Array.getD_eq_getD_getElem? ..).symm.trans e37
              clear e37
              first | rfl | (go_simp <;> exact IntWalk.i64_in _ (by omega))
            · intro a' w' K hI hd hq hK
              have hg := hd 15 32 (by kernel_rfl)
              have e1 : a'.eval (.tmp 1) = .int .i64 (i : Int) := (hq 1 (by kernel_rfl)).trans rfl
              clear hd hq
              refine op_value (wanted_on _ a' 15 32 true (by rfl) (by rfl) hg) (v := .int .i64 (i : Int)) (w'' := w') ?_ (hK _ _ hI (fun _ _ h => h) rfl)
              clear hK
              simp only [execOp, e1]
              have f1 : a'.tmps[1]?.getD undef = .int .i64 (i : Int) := (Array.getD_eq_getD_getElem? ..).symm.trans e1
              clear e1
              first | rfl | (go_simp <;> exact IntWalk.i64_in _ (by omega))
            · intro a' w' K hI hd hq hK
              have hg := hd 15 32 (by kernel_rfl)
              have e38 : a'.eval (.tmp 38) = .slice (some ⟨bv, ov, none⟩) cs.length vc := (hd 21 38 (by kernel_rfl))
              have e39 : a'.eval (.tmp 39) = .int .i64 (i : Int) := (hd 22 39 (by kernel_rfl))
              clear hd hq
              refine op_value (wanted_on _ a' 15 32 true (by rfl) (by rfl) hg) (v := .pointer (some ⟨bv, ov + i * 6, none⟩)) (w'' := w') ?_ (hK _ _ hI (fun _ _ h => h) rfl)
              clear hK
              simp only [execOp, e38, e39]
              have f38 : a'.tmps[38]?.getD undef = .slice (some ⟨bv, ov, none⟩) cs.length vc := (Array.getD_eq_getD_getElem? ..).symm.trans e38
              have f39 : a'.tmps[39]?.getD undef = .int .i64 (i : Int) := (Array.getD_eq_getD_getElem? ..).symm.trans e39
              clear e38 e39
              first | rfl | (go_simp <;> exact IntWalk.i64_in _ (by omega))
            · intro a' w' K hI hd hq hK
              have hg := hd 15 32 (by kernel_rfl)
              have e40 : a'.eval (.tmp 40) = .pointer (some ⟨bv, ov + i * 6, none⟩) := (hd 23 40 (by kernel_rfl))
              clear hd hq
              refine op_value (wanted_on _ a' 15 32 true (by rfl) (by rfl) hg) (v := .pointer (some ⟨bv, ov + i * 6 + 1, none⟩)) (w'' := w') ?_ (hK _ _ hI (fun _ _ h => h) rfl)
              clear hK
              simp only [execOp, e40]
              have f40 : a'.tmps[40]?.getD undef = .pointer (some ⟨bv, ov + i * 6, none⟩) := (Array.getD_eq_getD_getElem? ..).symm.trans e40
              clear e40
              first | rfl | (go_simp <;> exact IntWalk.i64_in _ (by omega))
            · intro a' w' K hI hd hq hK
              have hg := hd 15 32 (by kernel_rfl)
              have e41 : a'.eval (.tmp 41) = .pointer (some ⟨bv, ov + i * 6 + 1, none⟩) := (hd 24 41 (by kernel_rfl))
              clear hd hq
              have cx := ((HV2.out.below hI).cellsAt HC.out).2.1
              refine op_value (wanted_on _ a' 15 32 true (by rfl) (by rfl) hg) (v := .slice c.lA c.M.length c.lc) (w'' := w') ?_ (hK _ _ hI (fun _ _ h => h) rfl)
              clear hK
              simp only [execOp, e41]
              have f41 : a'.tmps[41]?.getD undef = .pointer (some ⟨bv, ov + i * 6 + 1, none⟩) := (Array.getD_eq_getD_getElem? ..).symm.trans e41
              clear e41
              first | rfl | (go_simp <;> exact IntWalk.i64_in _ (by omega))
            · intro a' w' K hI hd hq hK
              have hg := hd 15 32 (by kernel_rfl)
              have e34 : a'.eval (.tmp 34) = .slice d.lA d.M.length d.lc := (hd 17 34 (by kernel_rfl))
              have e42 : a'.eval (.tmp 42) = .slice c.lA c.M.length c.lc := (hd 25 42 (by kernel_rfl))
              clear hd hq
              refine op_call #[.slice d.lA d.M.length d.lc, .slice c.lA c.M.length c.lc] (wanted_on _ a' 15 32 true (by rfl) (by rfl) hg) rfl Try.func60 (by kernel_rfl) rfl (by simp [e34, e42]) ?_
              refine (prefix_any d.lA c.lA d.M.length d.lc c.M.length c.lc d.M c.M w' rfl rfl FD.out.1 FD.out.2.1 FD.out.2.2.1 FD.out.2.2.2.1 FD.out.2.2.2.2.1 FD.out.2.2.2.2.2 (((HV2.out.below hI).cf d (List.mem_of_getElem? HD.out)).rl.r) (((HV2.out.below hI).cf c (List.mem_of_getElem? HC.out)).rl.r)).mono ?_
              rw [HQ.out]
              rintro e w6 ⟨rfl, hb6⟩
              exact ⟨_, rfl, hK _ _ (below_below hI hI.size hb6) (fun j u => by match j with | 0 | 1 | 2 | 3 | 4 | 5 | 6 | 7 | 8 | 9 | 10 | 11 | 12 | 13 | 14 | 15 | 16 | 17 | 18 | 19 | 20 | 21 | 22 | 23 | 24 | 25 | 26 | 27 | 28 => exact fun h => h | _ + 29 => exact fun _ => trivial) rfl⟩
            · intro a' w' K hI hd hq hK
              have hg := hd 15 32 (by kernel_rfl)
              have e43 : a'.eval (.tmp 43) = .bool q := (hd 26 43 (by kernel_rfl))
              clear hd hq
              refine op_value (wanted_on _ a' 15 32 true (by rfl) (by rfl) hg) (v := .bool (!q)) (w'' := w') ?_ (hK _ _ hI (fun _ _ h => h) rfl)
              clear hK
              simp only [execOp, e43]
              have f43 : a'.tmps[43]?.getD undef = .bool q := (Array.getD_eq_getD_getElem? ..).symm.trans e43
              clear e43
              first | rfl | (go_simp <;> exact IntWalk.i64_in _ (by omega))
            · intro a' w' K hI hd hq hK
              have e32 : a'.eval (.tmp 32) = .bool true := (hd 15 32 (by kernel_rfl))
              have e44 : a'.eval (.tmp 44) = .bool (!q) := (hd 27 44 (by kernel_rfl))
              clear hd hq
              refine op_value (wanted_free _ _ (by rfl)) (v := .bool (!q)) (w'' := w') ?_ (hK _ _ hI (fun _ _ h => h) rfl)
              clear hK
              simp only [execOp, e32, e44]
              have f32 : a'.tmps[32]?.getD undef = .bool true := (Array.getD_eq_getD_getElem? ..).symm.trans e32
              have f44 : a'.tmps[44]?.getD undef = .bool (!q) := (Array.getD_eq_getD_getElem? ..).symm.trans e44
              clear e32 e44
              first | rfl | (go_simp <;> exact IntWalk.i64_in _ (by omega))
          case fin3 =>
            rintro w' hI _ rfl _ rfl _ rfl _ rfl _ rfl _ rfl _ rfl _ rfl _ rfl _ rfl _ rfl _ rfl _ rfl _ rfl _ rfl _ rfl _ rfl _ rfl _ rfl _ rfl _ rfl _ rfl _ rfl _ rfl _ rfl _ rfl _ rfl _ rfl _ rfl
            simp only [Act.put, List.setIfInBounds_toArray, List.set_cons_zero, List.set_cons_succ, FinGoal]
            cases q with
            | true =>
              have HIW := Lib.hid hI
              have HPY := Lib.hid (HPX.out.trans (if_pos rfl))
              clear hI
              go_wp2_with fail
              go_roundg (i - (j + 1))
              case measure => have := HK.out; have := HLT.out; omega
              case rel =>
                obtain ⟨j', h1, h2, h3, h4⟩ := HR.out _ (by rw [HPY.out]; exact HV2.out.below HIW.out) (Upd.of_below HIW.out)
                exact ⟨j', h1, h2, Eq.trans (by go_num) h3, h4⟩
            | false =>
              obtain ⟨w3, hw3⟩ : ∃ w3, w3 = w' := ⟨_, rfl⟩
              rw [← hw3] at hI ⊢
              clear hw3
              have HV3 := Lib.hid (HV2.out.below hI)
              have HIW := Lib.hid hI
              have HD1 := Lib.hid (show ∀ W, Upd (fun k => k = p) w3 W → W.cell? ⟨gd, 1, none⟩ = some (.slice d.lA d.M.length d.lc) from fun W hW => by
                have h1 := cell_below hI D1
                have h2 := hW.block gd (Nat.lt_of_lt_of_le HGS.out hI.size) HGP.out
                rw [← h1]
                simp only [World.cell?, h2])
              obtain ⟨B', hB'⟩ : ∃ B', bestOf B (3, (i : Int), (uu : Int)) = B' := ⟨_, rfl⟩
              have HBB := Lib.hid hB'
              have HPY := Lib.hid (HPX.out.trans ((if_neg (by decide)).trans hB'))
              clear hI hB'
              go_upto_region 4 with fail
              refine region_by (fun W => Upd (fun k => k = p) w3 W ∧ (VF W p (some ⟨bv, ov, none⟩) vc cs B ∨ VF W p (some ⟨bv, ov, none⟩) vc cs B')) [(fun v _ => v = .pointer (some ⟨p, 0, none⟩)), (fun v _ => v = .int .i64 (i : Int)), (fun v _ => v = .pointer (some ⟨gd, 1, none⟩)), (fun v _ => v = .slice d.lA d.M.length d.lc), (fun v _ => v = .pointer (some ⟨p, 0, none⟩)), (fun v _ => v = .pointer (some ⟨p, 0, none⟩)), (fun v _ => v = .pointer (some ⟨p, 0, none⟩)), (fun v _ => v = .slice (some ⟨bv, ov, none⟩) cs.length vc), (fun v _ => v = .int .i64 (i : Int)), (fun v _ => v = .pointer (some ⟨bv, ov + i * 6, none⟩)), (fun v _ => v = .pointer (some ⟨bv, ov + i * 6 + 1, none⟩)), (fun v _ => v = .slice c.lA c.M.length c.lc), fun v _ => v = .int .i64 (uu : Int), fun _ W => VF W p (some ⟨bv, ov, none⟩) vc cs B'] (by kernel_rfl) (by kernel_rfl) (by kernel_rfl) rfl (⟨(Upd.refl _ _).drew, .inl (HV3.out.below ((Below.refl _ _).drew))⟩) ?ok4 ?fin4
              case ok4 =>
                refine ⟨?_, ?_, ?_, ?_, ?_, ?_, ?_, ?_, ?_, ?_, ?_, ?_, ?_, ?_, trivial⟩
                · intro a' w' K hI hd hq hK
                  have e0 : a'.eval (.tmp 0) = .pointer (some ⟨p, 0, none⟩) := (hq 0 (by kernel_rfl)).trans rfl
                  clear hd hq
                  refine op_value (wanted_free _ _ (by rfl)) (v := .pointer (some ⟨p, 0, none⟩)) (w'' := w') ?_ (hK _ _ hI (fun _ _ h => h) rfl)
                  clear hK
                  simp only [execOp, e0]
                  have f0 : a'.tmps[0]?.getD undef = .pointer (some ⟨p, 0, none⟩) := (Array.getD_eq_getD_getElem? ..).symm.trans e0
                  clear e0
                  first | rfl | (go_simp <;> exact IntWalk.i64_in _ (by omega))
                · intro a' w' K hI hd hq hK
                  have e1 : a'.eval (.tmp 1) = .int .i64 (i : Int) := (hq 1 (by kernel_rfl)).trans rfl
                  clear hd hq
                  refine op_value (wanted_free _ _ (by rfl)) (v := .int .i64 (i : Int)) (w'' := w') ?_ (hK _ _ hI (fun _ _ h => h) rfl)
                  clear hK
                  simp only [execOp, e1]
                  have f1 : a'.tmps[1]?.getD undef = .int .i64 (i : Int) := (Array.getD_eq_getD_getElem? ..).symm.trans e1
                  clear e1
                  first | rfl | (go_simp <;> exact IntWalk.i64_in _ (by omega))
                · intro a' w' K hI hd hq hK
                  have e5 : a'.eval (.tmp 5) = .pointer (some ⟨gd, 0, none⟩) := (hq 5 (by kernel_rfl)).trans rfl
                  clear hd hq
                  refine op_value (wanted_free _ _ (by rfl)) (v := .pointer (some ⟨gd, 1, none⟩)) (w'' := w') ?_ (hK _ _ hI (fun _ _ h => h) rfl)
                  clear hK
                  simp only [execOp, e5]
                  have f5 : a'.tmps[5]?.getD undef = .pointer (some ⟨gd, 0, none⟩) := (Array.getD_eq_getD_getElem? ..).symm.trans e5
                  clear e5
                  first | rfl | (go_simp <;> exact IntWalk.i64_in _ (by omega))
                · intro a' w' K hI hd hq hK
                  have e48 : a'.eval (.tmp 48) = .pointer (some ⟨gd, 1, none⟩) := (hd 2 48 (by kernel_rfl))
                  clear hd hq
                  have cx := HD1.out _ hI.1
                  refine op_value (wanted_free _ _ (by rfl)) (v := .slice d.lA d.M.length d.lc) (w'' := w') ?_ (hK _ _ hI (fun _ _ h => h) rfl)
                  clear hK
                  simp only [execOp, e48]
                  have f48 : a'.tmps[48]?.getD undef = .pointer (some ⟨gd, 1, none⟩) := (Array.getD_eq_getD_getElem? ..).symm.trans e48
                  clear e48
                  first | rfl | (go_simp <;> exact IntWalk.i64_in _ (by omega))
                · intro a' w' K hI hd hq hK
                  have e0 : a'.eval (.tmp 0) = .pointer (some ⟨p, 0, none⟩) := (hq 0 (by kernel_rfl)).trans rfl
                  clear hd hq
                  refine op_value (wanted_free _ _ (by rfl)) (v := .pointer (some ⟨p, 0, none⟩)) (w'' := w') ?_ (hK _ _ hI (fun _ _ h => h) rfl)
                  clear hK
                  simp only [execOp, e0]
                  have f0 : a'.tmps[0]?.getD undef = .pointer (some ⟨p, 0, none⟩) := (Array.getD_eq_getD_getElem? ..).symm.trans e0
                  clear e0
                  first | rfl | (go_simp <;> exact IntWalk.i64_in _ (by omega))
                · intro a' w' K hI hd hq hK
                  have e50 : a'.eval (.tmp 50) = .pointer (some ⟨p, 0, none⟩) := (hd 4 50 (by kernel_rfl))
                  clear hd hq
                  refine op_value (wanted_free _ _ (by rfl)) (v := .pointer (some ⟨p, 0, none⟩)) (w'' := w') ?_ (hK _ _ hI (fun _ _ h => h) rfl)
                  clear hK
                  simp only [execOp, e50]
                  have f50 : a'.tmps[50]?.getD undef = .pointer (some ⟨p, 0, none⟩) := (Array.getD_eq_getD_getElem? ..).symm.trans e50
                  clear e50
                  first | rfl | (go_simp <;> exact IntWalk.i64_in _ (by omega))
                · intro a' w' K hI hd hq hK
                  have e51 : a'.eval (.tmp 51) = .pointer (some ⟨p, 0, none⟩) := (hd 5 51 (by kernel_rfl))
                  clear hd hq
                  refine op_value (wanted_free _ _ (by rfl)) (v := .pointer (some ⟨p, 0, none⟩)) (w'' := w') ?_ (hK _ _ hI (fun _ _ h => h) rfl)
                  clear hK
                  simp only [execOp, e51]
                  have f51 : a'.tmps[51]?.getD undef = .pointer (some ⟨p, 0, none⟩) := (Array.getD_eq_getD_getElem? ..).symm.trans e51
                  clear e51
                  first | rfl | (go_simp <;> exact IntWalk.i64_in _ (by omega))
                · intro a' w' K hI hd hq hK
                  have e52 : a'.eval (.tmp 52) = .pointer (some ⟨p, 0, none⟩) := (hd 6 52 (by kernel_rfl))
                  clear hd hq
                  have cx := hI.2.elim VF.c0 VF.c0
                  refine op_value (wanted_free _ _ (by rfl)) (v := .slice (some ⟨bv, ov, none⟩) cs.length vc) (w'' := w') ?_ (hK _ _ hI (fun _ _ h => h) rfl)
                  clear hK
                  simp only [execOp, e52]
                  have f52 : a'.tmps[52]?.getD undef = .pointer (some ⟨p, 0, none⟩) := (Array.getD_eq_getD_getElem? ..).symm.trans e52
                  clear e52
                  first | rfl | (go_simp <;> exact IntWalk.i64_in _ (by omega))
                · intro a' w' K hI hd hq hK
                  have e1 : a'.eval (.tmp 1) = .int .i64 (i : Int) := (hq 1 (by kernel_rfl)).trans rfl
                  clear hd hq
                  refine op_value (wanted_free _ _ (by rfl)) (v := .int .i64 (i : Int)) (w'' := w') ?_ (hK _ _ hI (fun _ _ h => h) rfl)
                  clear hK
                  simp only [execOp, e1]
                  have f1 : a'.tmps[1]?.getD undef = .int .i64 (i : Int) := (Array.getD_eq_getD_getElem? ..).symm.trans e1
                  clear e1
                  first | rfl | (go_simp <;> exact IntWalk.i64_in _ (by omega))
                · intro a' w' K hI hd hq hK
                  have e53 : a'.eval (.tmp 53) = .slice (some ⟨bv, ov, none⟩) cs.length vc := (hd 7 53 (by kernel_rfl))
                  have e54 : a'.eval (.tmp 54) = .int .i64 (i : Int) := (hd 8 54 (by kernel_rfl))
                  clear hd hq
                  refine op_value (wanted_free _ _ (by rfl)) (v := .pointer (some ⟨bv, ov + i * 6, none⟩)) (w'' := w') ?_ (hK _ _ hI (fun _ _ h => h) rfl)
                  clear hK
                  simp only [execOp, e53, e54]
                  have f53 : a'.tmps[53]?.getD undef = .slice (some ⟨bv, ov, none⟩) cs.length vc := (Array.getD_eq_getD_getElem? ..).symm.trans e53
                  have f54 : a'.tmps[54]?.getD undef = .int .i64 (i : Int) := (Array.getD_eq_getD_getElem? ..).symm.trans e54
                  clear e53 e54
                  first | rfl | (go_simp <;> exact IntWalk.i64_in _ (by omega))
                · intro a' w' K hI hd hq hK
                  have e55 : a'.eval (.tmp 55) = .pointer (some ⟨bv, ov + i * 6, none⟩) := (hd 9 55 (by kernel_rfl))
                  clear hd hq
                  refine op_value (wanted_free _ _ (by rfl)) (v := .pointer (some ⟨bv, ov + i * 6 + 1, none⟩)) (w'' := w') ?_ (hK _ _ hI (fun _ _ h => h) rfl)
                  clear hK
                  simp only [execOp, e55]
                  have f55 : a'.tmps[55]?.getD undef = .pointer (some ⟨bv, ov + i * 6, none⟩) := (Array.getD_eq_getD_getElem? ..).symm.trans e55
                  clear e55
                  first | rfl | (go_simp <;> exact IntWalk.i64_in _ (by omega))
                · intro a' w' K hI hd hq hK
                  have e56 : a'.eval (.tmp 56) = .pointer (some ⟨bv, ov + i * 6 + 1, none⟩) := (hd 10 56 (by kernel_rfl))
                  clear hd hq
                  have cx := hI.2.elim (fun h => (h.cellsAt HC.out).2.1) (fun h => (h.cellsAt HC.out).2.1)
                  refine op_value (wanted_free _ _ (by rfl)) (v := .slice c.lA c.M.length c.lc) (w'' := w') ?_ (hK _ _ hI (fun _ _ h => h) rfl)
                  clear hK
                  simp only [execOp, e56]
                  have f56 : a'.tmps[56]?.getD undef = .pointer (some ⟨bv, ov + i * 6 + 1, none⟩) := (Array.getD_eq_getD_getElem? ..).symm.trans e56
                  clear e56
                  first | rfl | (go_simp <;> exact IntWalk.i64_in _ (by omega))
                · intro a' w' K hI hd hq hK
                  have e49 : a'.eval (.tmp 49) = .slice d.lA d.M.length d.lc := (hd 3 49 (by kernel_rfl))
                  have e57 : a'.eval (.tmp 57) = .slice c.lA c.M.length c.lc := (hd 11 57 (by kernel_rfl))
                  clear hd hq
                  obtain ⟨BB, hBB⟩ : ∃ BB, VF w' p (some ⟨bv, ov, none⟩) vc cs BB := hI.2.elim (fun h => ⟨_, h⟩) (fun h => ⟨_, h⟩)
                  refine op_call #[.slice d.lA d.M.length d.lc, .slice c.lA c.M.length c.lc] (wanted_free _ _ (by rfl)) rfl Try.func61 (by kernel_rfl) rfl (by simp [e49, e57]) ?_
                  refine (unlike_any d.lA c.lA d.M.length d.lc c.M.length c.lc d.M c.M w' rfl rfl FD.out.1 FD.out.2.1 FD.out.2.2.1 FD.out.2.2.2.1 FD.out.2.2.2.2.1 FD.out.2.2.2.2.2 ((hBB.cf d (List.mem_of_getElem? HD.out)).rl.r) ((hBB.cf c (List.mem_of_getElem? HC.out)).rl.r)).mono ?_
                  rw [HUU.out]
                  rintro e w6 ⟨rfl, hb6⟩
                  exact ⟨_, rfl, hK _ _ ⟨hI.1.below hb6, hI.2.elim (fun h => .inl (h.below hb6)) (fun h => .inr (h.below hb6))⟩ (fun j u => by match j with | 0 | 1 | 2 | 3 | 4 | 5 | 6 | 7 | 8 | 9 | 10 | 11 | 12 => exact fun h => h | 13 => exact fun h => VF.below h hb6 | _ + 14 => exact fun _ => trivial) rfl⟩
                · intro a' w' K hI hd hq hK
                  have e46 : a'.eval (.tmp 46) = .pointer (some ⟨p, 0, none⟩) := (hd 0 46 (by kernel_rfl))
                  have e47 : a'.eval (.tmp 47) = .int .i64 (i : Int) := (hd 1 47 (by kernel_rfl))
                  have e58 : a'.eval (.tmp 58) = .int .i64 (uu : Int) := (hd 12 58 (by kernel_rfl))
                  clear hd hq
                  obtain ⟨BB, hBB, hbb⟩ : ∃ BB, VF w' p (some ⟨bv, ov, none⟩) vc cs BB ∧ bestOf BB (3, (i : Int), (uu : Int)) = B' := hI.2.elim (fun h => ⟨_, h, HBB.out⟩) (fun h => ⟨_, h, by rw [← HBB.out]; exact bestOf_idem _ _⟩)
                  refine op_call #[.pointer (some ⟨p, 0, none⟩), .int .i64 3, .int .i64 (i : Int), .int .i64 (uu : Int)] (wanted_free _ _ (by rfl)) rfl Try.func32 (by kernel_rfl) rfl (by simp only [List.map_toArray, List.map_cons, List.map_nil, e46, e47, e58]; rfl) ?_
                  refine (found_any p _ BB 3 (i : Int) (uu : Int) w' hBB.at_).mono ?_
                  rw [hbb]
                  rintro e w6 ⟨rfl, hv6, hu6⟩
                  have hvf := hBB.turn hu6 hv6
                  exact ⟨_, rfl, hK _ _ ⟨hI.1.trans hu6 (fun _ _ h => h), .inr hvf⟩ (fun j u => by match j with | 0 | 1 | 2 | 3 | 4 | 5 | 6 | 7 | 8 | 9 | 10 | 11 | 12 => exact fun h => h | 13 => exact fun _ => hvf | _ + 14 => exact fun _ => trivial) hvf⟩
              case fin4 =>
                rintro w' hI _ rfl _ rfl _ rfl _ rfl _ rfl _ rfl _ rfl _ rfl _ rfl _ rfl _ rfl _ rfl _ rfl _ hfin
                simp only [Act.put, List.setIfInBounds_toArray, List.set_cons_zero, List.set_cons_succ, FinGoal]
                have HFIN := Lib.hid hfin
                have HIX := Lib.hid hI
                clear hfin hI
                go_wp2_with fail
                go_roundg (i - (j + 1))
                case measure => have := HK.out; have := HLT.out; omega
                case rel =>
                  obtain ⟨j', h1, h2, h3, h4⟩ := HR.out _ (by rw [HPY.out]; exact HFIN.out) ((Upd.of_below HIW.out).trans HIX.out.1 (fun _ _ h => h))
                  exact ⟨j', h1, h2, Eq.trans (by go_num) h3, h4⟩
        · have hgr1 : (d.group == c.group) = false := by simpa using hgr
          have HPY := Lib.hid (hpx.trans (if_neg fun h => hgr h.2.1))
          clear hpx hwh hgr
          refine region_by (fun W => Below w2.heap.size w2 W) [(fun v _ => v = .pointer (some ⟨gd, 4, none⟩)), (fun v _ => v = .bool true), (fun v _ => v = .bool true), (fun v _ => v = .pointer (some ⟨gd, 0, none⟩)), (fun v _ => v = .int .i64 d.group), (fun v _ => v = .pointer (some ⟨p, 0, none⟩)), (fun v _ => v = .pointer (some ⟨p, 0, none⟩)), (fun v _ => v = .pointer (some ⟨p, 0, none⟩)), (fun v _ => v = .slice (some ⟨bv, ov, none⟩) cs.length vc), (fun v _ => v = .int .i64 (i : Int)), (fun v _ => v = .pointer (some ⟨bv, ov + i * 6, none⟩)), (fun v _ => v = .pointer (some ⟨bv, ov + i * 6, none⟩)), (fun v _ => v = .int .i64 c.group), (fun v _ => v = .bool false), (fun v _ => v = .bool false), (fun v _ => v = .bool false), (fun v _ => v = undef), (fun v _ => v = undef), (fun v _ => v = undef), (fun v _ => v = undef), (fun v _ => v = undef), (fun v _ => v = undef), (fun v _ => v = undef), (fun v _ => v = undef), (fun v _ => v = undef), (fun v _ => v = undef), (fun v _ => v = undef), (fun v _ => v = undef), (fun v _ => v = .bool false)] (by kernel_rfl) (by kernel_rfl) (by kernel_rfl) rfl ((Below.refl _ _).drew) ?ok3 ?fin3
          case ok3 =>
            refine ⟨?_, ?_, ?_, ?_, ?_, ?_, ?_, ?_, ?_, ?_, ?_, ?_, ?_, ?_, ?_, ?_, ?_, ?_, ?_, ?_, ?_, ?_, ?_, ?_, ?_, ?_, ?_, ?_, ?_, trivial⟩
            · intro a' w' K hI hd hq hK
              have e5 : a'.eval (.tmp 5) = .pointer (some ⟨gd, 0, none⟩) := (hq 5 (by kernel_rfl)).trans rfl
              clear hd hq
              refine op_value (wanted_free _ _ (by rfl)) (v := .pointer (some ⟨gd, 4, none⟩)) (w'' := w') ?_ (hK _ _ hI (fun _ _ h => h) rfl)
              clear hK
              simp only [execOp, e5]
              have f5 : a'.tmps[5]?.getD undef = .pointer (some ⟨gd, 0, none⟩) := (Array.getD_eq_getD_getElem? ..).symm.trans e5
              clear e5
              first | rfl | (go_simp <;> exact IntWalk.i64_in _ (by omega))
            · intro a' w' K hI hd hq hK
              have e17 : a'.eval (.tmp 17) = .pointer (some ⟨gd, 4, none⟩) := (hd 0 17 (by kernel_rfl))
              clear hd hq
              have cx := cell_below hI D4
              refine op_value (wanted_free _ _ (by rfl)) (v := .bool true) (w'' := w') ?_ (hK _ _ hI (fun _ _ h => h) rfl)
              clear hK
              simp only [execOp, e17]
              have f17 : a'.tmps[17]?.getD undef = .pointer (some ⟨gd, 4, none⟩) := (Array.getD_eq_getD_getElem? ..).symm.trans e17
              clear e17
              first | rfl | (go_simp <;> exact IntWalk.i64_in _ (by omega))
            · intro a' w' K hI hd hq hK
              have e18 : a'.eval (.tmp 18) = .bool true := (hd 1 18 (by kernel_rfl))
              clear hd hq
              refine op_value (wanted_free _ _ (by rfl)) (v := .bool true) (w'' := w') ?_ (hK _ _ hI (fun _ _ h => h) rfl)
              clear hK
              simp only [execOp, e18]
              have f18 : a'.tmps[18]?.getD undef = .bool true := (Array.getD_eq_getD_getElem? ..).symm.trans e18
              clear e18
              first | rfl | (go_simp <;> exact IntWalk.i64_in _ (by omega))
            · intro a' w' K hI hd hq hK
              have hg := hd 2 19 (by kernel_rfl)
              have e5 : a'.eval (.tmp 5) = .pointer (some ⟨gd, 0, none⟩) := (hq 5 (by kernel_rfl)).trans rfl
              clear hd hq
              refine op_value (wanted_on _ a' 2 19 true (by rfl) (by rfl) hg) (v := .pointer (some ⟨gd, 0, none⟩)) (w'' := w') ?_ (hK _ _ hI (fun _ _ h => h) rfl)
              clear hK
              simp only [execOp, e5]
              have f5 : a'.tmps[5]?.getD undef = .pointer (some ⟨gd, 0, none⟩) := (Array.getD_eq_getD_getElem? ..).symm.trans e5
              clear e5
              first | rfl | (go_simp <;> exact IntWalk.i64_in _ (by omega))
            · intro a' w' K hI hd hq hK
              have hg := hd 2 19 (by kernel_rfl)
              have e20 : a'.eval (.tmp 20) = .pointer (some ⟨gd, 0, none⟩) := (hd 3 20 (by kernel_rfl))
              clear hd hq
              have cx := cell_below hI D0
              refine op_value (wanted_on _ a' 2 19 true (by rfl) (by rfl) hg) (v := .int .i64 d.group) (w'' := w') ?_ (hK _ _ hI (fun _ _ h => h) rfl)
              clear hK
              simp only [execOp, e20]
              have f20 : a'.tmps[20]?.getD undef = .pointer (some ⟨gd, 0, none⟩) := (Array.getD_eq_getD_getElem? ..).symm.trans e20
              clear e20
              first | rfl | (go_simp <;> exact IntWalk.i64_in _ (by omega))
            · intro a' w' K hI hd hq hK
              have hg := hd 2 19 (by kernel_rfl)
              have e0 : a'.eval (.tmp 0) = .pointer (some ⟨p, 0, none⟩) := (hq 0 (by kernel_rfl)).trans rfl
              clear hd hq
              refine op_value (wanted_on _ a' 2 19 true (by rfl) (by rfl) hg) (v := .pointer (some ⟨p, 0, none⟩)) (w'' := w') ?_ (hK _ _ hI (fun _ _ h => h) rfl)
              clear hK
              simp only [execOp, e0]
              have f0 : a'.tmps[0]?.getD undef = .pointer (some ⟨p, 0, none⟩) := (Array.getD_eq_getD_getElem? ..).symm.trans e0
              clear e0
              first | rfl | (go_simp <;> exact IntWalk.i64_in _ (by omega))
            · intro a' w' K hI hd hq hK
              have hg := hd 2 19 (by kernel_rfl)
              have e22 : a'.eval (.tmp 22) = .pointer (some ⟨p, 0, none⟩) := (hd 5 22 (by kernel_rfl))
              clear hd hq
              refine op_value (wanted_on _ a' 2 19 true (by rfl) (by rfl) hg) (v := .pointer (some ⟨p, 0, none⟩)) (w'' := w') ?_ (hK _ _ hI (fun _ _ h => h) rfl)
              clear hK
              simp only [execOp, e22]
              have f22 : a'.tmps[22]?.getD undef = .pointer (some ⟨p, 0, none⟩) := (Array.getD_eq_getD_getElem? ..).symm.trans e22
              clear e22
              first | rfl | (go_simp <;> exact IntWalk.i64_in _ (by omega))
            · intro a' w' K hI hd hq hK
              have hg := hd 2 19 (by kernel_rfl)
              have e23 : a'.eval (.tmp 23) = .pointer (some ⟨p, 0, none⟩) := (hd 6 23 (by kernel_rfl))
              clear hd hq
              refine op_value (wanted_on _ a' 2 19 true (by rfl) (by rfl) hg) (v := .pointer (some ⟨p, 0, none⟩)) (w'' := w') ?_ (hK _ _ hI (fun _ _ h => h) rfl)
              clear hK
              simp only [execOp, e23]
              have f23 : a'.tmps[23]?.getD undef = .pointer (some ⟨p, 0, none⟩) := (Array.getD_eq_getD_getElem? ..).symm.trans e23
              clear e23
              first | rfl | (go_simp <;> exact IntWalk.i64_in _ (by omega))
            · intro a' w' K hI hd hq hK
              have hg := hd 2 19 (by kernel_rfl)
              have e24 : a'.eval (.tmp 24) = .pointer (some ⟨p, 0, none⟩) := (hd 7 24 (by kernel_rfl))
              clear hd hq
              have cx := (HV2.out.below hI).c0
              refine op_value (wanted_on _ a' 2 19 true (by rfl) (by rfl) hg) (v := .slice (some ⟨bv, ov, none⟩) cs.length vc) (w'' := w') ?_ (hK _ _ hI (fun _ _ h => h) rfl)
              clear hK
              simp only [execOp, e24]
              have f24 : a'.tmps[24]?.getD undef = .pointer (some ⟨p, 0, none⟩) := (Array.getD_eq_getD_getElem? ..).symm.trans e24
              clear e24
              first | rfl | (go_simp <;> exact IntWalk.i64_in _ (by omega))
            · intro a' w' K hI hd hq hK
              have hg := hd 2 19 (by kernel_rfl)
              have e1 : a'.eval (.tmp 1) = .int .i64 (i : Int) := (hq 1 (by kernel_rfl)).trans rfl
              clear hd hq
              refine op_value (wanted_on _ a' 2 19 true (by rfl) (by rfl) hg) (v := .int .i64 (i : Int)) (w'' := w') ?_ (hK _ _ hI (fun _ _ h => h) rfl)
              clear hK
              simp only [execOp, e1]
              have f1 : a'.tmps[1]?.getD undef = .int .i64 (i : Int) := (Array.getD_eq_getD_getElem? ..).symm.trans e1
              clear e1
              first | rfl | (go_simp <;> exact IntWalk.i64_in _ (by omega))
            · intro a' w' K hI hd hq hK
              have hg := hd 2 19 (by kernel_rfl)
              have e25 : a'.eval (.tmp 25) = .slice (some ⟨bv, ov, none⟩) cs.length vc := (hd 8 25 (by kernel_rfl))
              have e26 : a'.eval (.tmp 26) = .int .i64 (i : Int) := (hd 9 26 (by kernel_rfl))
              clear hd hq
              refine op_value (wanted_on _ a' 2 19 true (by rfl) (by rfl) hg) (v := .pointer (some ⟨bv, ov + i * 6, none⟩)) (w'' := w') ?_ (hK _ _ hI (fun _ _ h => h) rfl)
              clear hK
              simp only [execOp, e25, e26]
              have f25 : a'.tmps[25]?.getD undef = .slice (some ⟨bv, ov, none⟩) cs.length vc := (Array.getD_eq_getD_getElem? ..).symm.trans e25
              have f26 : a'.tmps[26]?.getD undef = .int .i64 (i : Int) := (Array.getD_eq_getD_getElem? ..).symm.trans e26
              clear e25 e26
              first | rfl | (go_simp <;> exact IntWalk.i64_in _ (by omega))
            · intro a' w' K hI hd hq hK
              have hg := hd 2 19 (by kernel_rfl)
              have e27 : a'.eval (.tmp 27) = .pointer (some ⟨bv, ov + i * 6, none⟩) := (hd 10 27 (by kernel_rfl))
              clear hd hq
              refine op_value (wanted_on _ a' 2 19 true (by rfl) (by rfl) hg) (v := .pointer (some ⟨bv, ov + i * 6, none⟩)) (w'' := w') ?_ (hK _ _ hI (fun _ _ h => h) rfl)
              clear hK
              simp only [execOp, e27]
              have f27 : a'.tmps[27]?.getD undef = .pointer (some ⟨bv, ov + i * 6, none⟩) := (Array.getD_eq_getD_getElem? ..).symm.trans e27
              clear e27
              first | rfl | (go_simp <;> exact IntWalk.i64_in _ (by omega))
            · intro a' w' K hI hd hq hK
              have hg := hd 2 19 (by kernel_rfl)
              have e28 : a'.eval (.tmp 28) = .pointer (some ⟨bv, ov + i * 6, none⟩) := (hd 11 28 (by kernel_rfl))
              clear hd hq
              have cx := ((HV2.out.below hI).cellsAt HC.out).1
              refine op_value (wanted_on _ a' 2 19 true (by rfl) (by rfl) hg) (v := .int .i64 c.group) (w'' := w') ?_ (hK _ _ hI (fun _ _ h => h) rfl)
              clear hK
              simp only [execOp, e28]
              have f28 : a'.tmps[28]?.getD undef = .pointer (some ⟨bv, ov + i * 6, none⟩) := (Array.getD_eq_getD_getElem? ..).symm.trans e28
              clear e28
              first | rfl | (go_simp <;> exact IntWalk.i64_in _ (by omega))
            · intro a' w' K hI hd hq hK
              have hg := hd 2 19 (by kernel_rfl)
              have e21 : a'.eval (.tmp 21) = .int .i64 d.group := (hd 4 21 (by kernel_rfl))
              have e29 : a'.eval (.tmp 29) = .int .i64 c.group := (hd 12 29 (by kernel_rfl))
              clear hd hq
              refine op_value (wanted_on _ a' 2 19 true (by rfl) (by rfl) hg) (v := .bool false) (w'' := w') ?_ (hK _ _ hI (fun _ _ h => h) rfl)
              clear hK
              simp only [execOp, e21, e29]
              have f21 : a'.tmps[21]?.getD undef = .int .i64 d.group := (Array.getD_eq_getD_getElem? ..).symm.trans e21
              have f29 : a'.tmps[29]?.getD undef = .int .i64 c.group := (Array.getD_eq_getD_getElem? ..).symm.trans e29
              clear e21 e29
              first | rfl | (go_simp <;> exact IntWalk.i64_in _ (by omega))
            · intro a' w' K hI hd hq hK
              have e19 : a'.eval (.tmp 19) = .bool true := (hd 2 19 (by kernel_rfl))
              have e30 : a'.eval (.tmp 30) = .bool false := (hd 13 30 (by kernel_rfl))
              clear hd hq
              refine op_value (wanted_free _ _ (by rfl)) (v := .bool false) (w'' := w') ?_ (hK _ _ hI (fun _ _ h => h) rfl)
              clear hK
              simp only [execOp, e19, e30]
              have f19 : a'.tmps[19]?.getD undef = .bool true := (Array.getD_eq_getD_getElem? ..).symm.trans e19
              have f30 : a'.tmps[30]?.getD undef = .bool false := (Array.getD_eq_getD_getElem? ..).symm.trans e30
              clear e19 e30
              first | rfl | (go_simp <;> exact IntWalk.i64_in _ (by omega))
            · intro a' w' K hI hd hq hK
              have e31 : a'.eval (.tmp 31) = .bool false := (hd 14 31 (by kernel_rfl))
              clear hd hq
              refine op_value (wanted_free _ _ (by rfl)) (v := .bool false) (w'' := w') ?_ (hK _ _ hI (fun _ _ h => h) rfl)
              clear hK
              simp only [execOp, e31]
              have f31 : a'.tmps[31]?.getD undef = .bool false := (Array.getD_eq_getD_getElem? ..).symm.trans e31
              clear e31
              first | rfl | (go_simp <;> exact IntWalk.i64_in _ (by omega))
            · intro a' w' K hI hd hq hK
              have hg := hd 15 32 (by kernel_rfl)
              rw [if_neg (by rw [wanted_off _ a' 15 32 true (by rfl) (by rfl) hg]; decide)]
              exact hK _ _ hI (fun _ _ h => h) rfl
            · intro a' w' K hI hd hq hK
              have hg := hd 15 32 (by kernel_rfl)
              rw [if_neg (by rw [wanted_off _ a' 15 32 true (by rfl) (by rfl) hg]; decide)]
              exact hK _ _ hI (fun _ _ h => h) rfl
            · intro a' w' K hI hd hq hK
              have hg := hd 15 32 (by kernel_rfl)
              rw [if_neg (by rw [wanted_off _ a' 15 32 true (by rfl) (by rfl) hg]; decide)]
              exact hK _ _ hI (fun _ _ h => h) rfl
            · intro a' w' K hI hd hq hK
              have hg := hd 15 32 (by kernel_rfl)
              rw [if_neg (by rw [wanted_off _ a' 15 32 true (by rfl) (by rfl) hg]; decide)]
              exact hK _ _ hI (fun _ _ h => h) rfl
            · intro a' w' K hI hd hq hK
              have hg := hd 15 32 (by kernel_rfl)
              rw [if_neg (by rw [wanted_off _ a' 15 32 true (by rfl) (by rfl) hg]; decide)]
              exact hK _ _ hI (fun _ _ h => h) rfl
            · intro a' w' K hI hd hq hK
              have hg := hd 15 32 (by kernel_rfl)
              rw [if_neg (by rw [wanted_off _ a' 15 32 true (by rfl) (by rfl) hg]; decide)]
              exact hK _ _ hI (fun _ _ h => h) rfl
            · intro a' w' K hI hd hq hK
              have hg := hd 15 32 (by kernel_rfl)
              rw [if_neg (by rw [wanted_off _ a' 15 32 true (by rfl) (by rfl) hg]; decide)]
              exact hK _ _ hI (fun _ _ h => h) rfl
            · intro a' w' K hI hd hq hK
              have hg := hd 15 32 (by kernel_rfl)
              rw [if_neg (by rw [wanted_off _ a' 15 32 true (by rfl) (by rfl) hg]; decide)]
              exact hK _ _ hI (fun _ _ h => h) rfl
            · intro a' w' K hI hd hq hK
              have hg := hd 15 32 (by kernel_rfl)
              rw [if_neg (by rw [wanted_off _ a' 15 32 true (by rfl) (by rfl) hg]; decide)]
              exact hK _ _ hI (fun _ _ h => h) rfl
            · intro a' w' K hI hd hq hK
              have hg := hd 15 32 (by kernel_rfl)
              rw [if_neg (by rw [wanted_off _ a' 15 32 true (by rfl) (by rfl) hg]; decide)]
              exact hK _ _ hI (fun _ _ h => h) rfl
            · intro a' w' K hI hd hq hK
              have hg := hd 15 32 (by kernel_rfl)
              rw [if_neg (by rw [wanted_off _ a' 15 32 true (by rfl) (by rfl) hg]; decide)]
              exact hK _ _ hI (fun _ _ h => h) rfl
            · intro a' w' K hI hd hq hK
              have hg := hd 15 32 (by kernel_rfl)
              rw [if_neg (by rw [wanted_off _ a' 15 32 true (by rfl) (by rfl) hg]; decide)]
              exact hK _ _ hI (fun _ _ h => h) rfl
            · intro a' w' K hI hd hq hK
              have e32 : a'.eval (.tmp 32) = .bool false := (hd 15 32 (by kernel_rfl))
              have e44 : a'.eval (.tmp 44) = undef := (hd 27 44 (by kernel_rfl))
              clear hd hq
              refine op_value (wanted_free _ _ (by rfl)) (v := .bool false) (w'' := w') ?_ (hK _ _ hI (fun _ _ h => h) rfl)
              clear hK
              simp only [execOp, e32, e44]
              have f32 : a'.tmps[32]?.getD undef = .bool false := (Array.getD_eq_getD_getElem? ..).symm.trans e32
              have f44 : a'.tmps[44]?.getD undef = undef := (Array.getD_eq_getD_getElem? ..).symm.trans e44
              clear e32 e44
              first | rfl | (go_simp <;> exact IntWalk.i64_in _ (by omega))
          case fin3 =>
            rintro w' hI _ rfl _ rfl _ rfl _ rfl _ rfl _ rfl _ rfl _ rfl _ rfl _ rfl _ rfl _ rfl _ rfl _ rfl _ rfl _ rfl _ rfl _ rfl _ rfl _ rfl _ rfl _ rfl _ rfl _ rfl _ rfl _ rfl _ rfl _ rfl _ rfl
            simp only [Act.put, List.setIfInBounds_toArray, List.set_cons_zero, List.set_cons_succ, FinGoal]
            have HIW := Lib.hid hI
            clear hI
            go_wp2_with fail
            go_roundg (i - (j + 1))
            case measure => have := HK.out; have := HLT.out; omega
            case rel =>
              obtain ⟨j', h1, h2, h3, h4⟩ := HR.out _ (by rw [HPY.out]; exact HV2.out.below HIW.out) (Upd.of_below HIW.out)
              exact ⟨j', h1, h2, Eq.trans (by go_num) h3, h4⟩
      · have HPY := Lib.hid (hpx.trans (if_neg fun h => hwh h.1))
        have hwf : d.whole = false := by simpa using hwh
        rw [hwf] at D4
        clear hpx hwh hwf
        refine region_by (fun W => Below w2.heap.size w2 W) [(fun v _ => v = .pointer (some ⟨gd, 4, none⟩)), (fun v _ => v = .bool false), (fun v _ => v = .bool false), (fun v _ => v = undef), (fun v _ => v = undef), (fun v _ => v = undef), (fun v _ => v = undef), (fun v _ => v = undef), (fun v _ => v = undef), (fun v _ => v = undef), (fun v _ => v = undef), (fun v _ => v = undef), (fun v _ => v = undef), (fun v _ => v = undef), (fun v _ => v = .bool false), (fun v _ => v = .bool false), (fun v _ => v = undef), (fun v _ => v = undef), (fun v _ => v = undef), (fun v _ => v = undef), (fun v _ => v = undef), (fun v _ => v = undef), (fun v _ => v = undef), (fun v _ => v = undef), (fun v _ => v = undef), (fun v _ => v = undef), (fun v _ => v = undef), (fun v _ => v = undef), (fun v _ => v = .bool false)] (by kernel_rfl) (by kernel_rfl) (by kernel_rfl) rfl ((Below.refl _ _).drew) ?ok3 ?fin3
        case ok3 =>
          refine ⟨?_, ?_, ?_, ?_, ?_, ?_, ?_, ?_, ?_, ?_, ?_, ?_, ?_, ?_, ?_, ?_, ?_, ?_, ?_, ?_, ?_, ?_, ?_, ?_, ?_, ?_, ?_, ?_, ?_, trivial⟩
          · intro a' w' K hI hd hq hK
            have e5 : a'.eval (.tmp 5) = .pointer (some ⟨gd, 0, none⟩) := (hq 5 (by kernel_rfl)).trans rfl
            clear hd hq
            refine op_value (wanted_free _ _ (by rfl)) (v := .pointer (some ⟨gd, 4, none⟩)) (w'' := w') ?_ (hK _ _ hI (fun _ _ h => h) rfl)
            clear hK
            simp only [execOp, e5]
            have f5 : a'.tmps[5]?.getD undef = .pointer (some ⟨gd, 0, none⟩) := (Array.getD_eq_getD_getElem? ..).symm.trans e5
            clear e5
            first | rfl | (go_simp <;> exact IntWalk.i64_in _ (by omega))
          · intro a' w' K hI hd hq hK
            have e17 : a'.eval (.tmp 17) = .pointer (some ⟨gd, 4, none⟩) := (hd 0 17 (by kernel_rfl))
            clear hd hq
            have cx := cell_below hI D4
            refine op_value (wanted_free _ _ (by rfl)) (v := .bool false) (w'' := w') ?_ (hK _ _ hI (fun _ _ h => h) rfl)
            clear hK
            simp only [execOp, e17]
            have f17 : a'.tmps[17]?.getD undef = .pointer (some ⟨gd, 4, none⟩) := (Array.getD_eq_getD_getElem? ..).symm.trans e17
            clear e17
            first | rfl | (go_simp <;> exact IntWalk.i64_in _ (by omega))
          · intro a' w' K hI hd hq hK
            have e18 : a'.eval (.tmp 18) = .bool false := (hd 1 18 (by kernel_rfl))
            clear hd hq
            refine op_value (wanted_free _ _ (by rfl)) (v := .bool false) (w'' := w') ?_ (hK _ _ hI (fun _ _ h => h) rfl)
            clear hK
            simp only [execOp, e18]
            have f18 : a'.tmps[18]?.getD undef = .bool false := (Array.getD_eq_getD_getElem? ..).symm.trans e18
            clear e18
            first | rfl | (go_simp <;> exact IntWalk.i64_in _ (by omega))
          · intro a' w' K hI hd hq hK
            have hg := hd 2 19 (by kernel_rfl)
            rw [if_neg (by rw [wanted_off _ a' 2 19 true (by rfl) (by rfl) hg]; decide)]
            exact hK _ _ hI (fun _ _ h => h) rfl
          · intro a' w' K hI hd hq hK
            have hg := hd 2 19 (by kernel_rfl)
            rw [if_neg (by rw [wanted_off _ a' 2 19 true (by rfl) (by rfl) hg]; decide)]
            exact hK _ _ hI (fun _ _ h => h) rfl
          · intro a' w' K hI hd hq hK
            have hg := hd 2 19 (by kernel_rfl)
            rw [if_neg (by rw [wanted_off _ a' 2 19 true (by rfl) (by rfl) hg]; decide)]
            exact hK _ _ hI (fun _ _ h => h) rfl
          · intro a' w' K hI hd hq hK
            have hg := hd 2 19 (by kernel_rfl)
            rw [if_neg (by rw [wanted_off _ a' 2 19 true (by rfl) (by rfl) hg]; decide)]
            exact hK _ _ hI (fun _ _ h => h) rfl
          · intro a' w' K hI hd hq hK
            have hg := hd 2 19 (by kernel_rfl)
            rw [if_neg (by rw [wanted_off _ a' 2 19 true (by rfl) (by rfl) hg]; decide)]
            exact hK _ _ hI (fun _ _ h => h) rfl
          · intro a' w' K hI hd hq hK
            have hg := hd 2 19 (by kernel_rfl)
            rw [if_neg (by rw [wanted_off _ a' 2 19 true (by rfl) (by rfl) hg]; decide)]
            exact hK _ _ hI (fun _ _ h => h) rfl
          · intro a' w' K hI hd hq hK
            have hg := hd 2 19 (by kernel_rfl)
            rw [if_neg (by rw [wanted_off _ a' 2 19 true (by rfl) (by rfl) hg]; decide)]
            exact hK _ _ hI (fun _ _ h => h) rfl
          · intro a' w' K hI hd hq hK
            have hg := hd 2 19 (by kernel_rfl)
            rw [if_neg (by rw [wanted_off _ a' 2 19 true (by rfl) (by rfl) hg]; decide)]
            exact hK _ _ hI (fun _ _ h => h) rfl
          · intro a' w' K hI hd hq hK
            have hg := hd 2 19 (by kernel_rfl)
            rw [if_neg (by rw [wanted_off _ a' 2 19 true (by rfl) (by rfl) hg]; decide)]
            exact hK _ _ hI (fun _ _ h => h) rfl
          · intro a' w' K hI hd hq hK
            have hg := hd 2 19 (by kernel_rfl)
            rw [if_neg (by rw [wanted_off _ a' 2 19 true (by rfl) (by rfl) hg]; decide)]
            exact hK _ _ hI (fun _ _ h => h) rfl
          · intro a' w' K hI hd hq hK
            have hg := hd 2 19 (by kernel_rfl)
            rw [if_neg (by rw [wanted_off _ a' 2 19 true (by rfl) (by rfl) hg]; decide)]
            exact hK _ _ hI (fun _ _ h => h) rfl
          · intro a' w' K hI hd hq hK
            have e19 : a'.eval (.tmp 19) = .bool false := (hd 2 19 (by kernel_rfl))
            have e30 : a'.eval (.tmp 30) = undef := (hd 13 30 (by kernel_rfl))
            clear hd hq
            refine op_value (wanted_free _ _ (by rfl)) (v := .bool false) (w'' := w') ?_ (hK _ _ hI (fun _ _ h => h) rfl)
            clear hK
            simp only [execOp, e19, e30]
            have f19 : a'.tmps[19]?.getD undef = .bool false := (Array.getD_eq_getD_getElem? ..).symm.trans e19
            have f30 : a'.tmps[30]?.getD undef = undef := (Array.getD_eq_getD_getElem? ..).symm.trans e30
            clear e19 e30
            first | rfl | (go_simp <;> exact IntWalk.i64_in _ (by omega))
          · intro a' w' K hI hd hq hK
            have e31 : a'.eval (.tmp 31) = .bool false := (hd 14 31 (by kernel_rfl))
            clear hd hq
            refine op_value (wanted_free _ _ (by rfl)) (v := .bool false) (w'' := w') ?_ (hK _ _ hI (fun _ _ h => h) rfl)
            clear hK
            simp only [execOp, e31]
            have f31 : a'.tmps[31]?.getD undef = .bool false := (Array.getD_eq_getD_getElem? ..).symm.trans e31
            clear e31
            first | rfl | (go_simp <;> exact IntWalk.i64_in _ (by omega))
          · intro a' w' K hI hd hq hK
            have hg := hd 15 32 (by kernel_rfl)
            rw [if_neg (by rw [wanted_off _ a' 15 32 true (by rfl) (by rfl) hg]; decide)]
            exact hK _ _ hI (fun _ _ h => h) rfl
          · intro a' w' K hI hd hq hK
            have hg := hd 15 32 (by kernel_rfl)
            rw [if_neg (by rw [wanted_off _ a' 15 32 true (by rfl) (by rfl) hg]; decide)]
            exact hK _ _ hI (fun _ _ h => h) rfl
          · intro a' w' K hI hd hq hK
            have hg := hd 15 32 (by kernel_rfl)
            rw [if_neg (by rw [wanted_off _ a' 15 32 true (by rfl) (by rfl) hg]; decide)]
            exact hK _ _ hI (fun _ _ h => h) rfl
          · intro a' w' K hI hd hq hK
            have hg := hd 15 32 (by kernel_rfl)
            rw [if_neg (by rw [wanted_off _ a' 15 32 true (by rfl) (by rfl) hg]; decide)]
            exact hK _ _ hI (fun _ _ h => h) rfl
          · intro a' w' K hI hd hq hK
            have hg := hd 15 32 (by kernel_rfl)
            rw [if_neg (by rw [wanted_off _ a' 15 32 true (by rfl) (by rfl) hg]; decide)]
            exact hK _ _ hI (fun _ _ h => h) rfl
          · intro a' w' K hI hd hq hK
            have hg := hd 15 32 (by kernel_rfl)
            rw [if_neg (by rw [wanted_off _ a' 15 32 true (by rfl) (by rfl) hg]; decide)]
            exact hK _ _ hI (fun _ _ h => h) rfl
          · intro a' w' K hI hd hq hK
            have hg := hd 15 32 (by kernel_rfl)
            rw [if_neg (by rw [wanted_off _ a' 15 32 true (by rfl) (by rfl) hg]; decide)]
            exact hK _ _ hI (fun _ _ h => h) rfl
          · intro a' w' K hI hd hq hK
            have hg := hd 15 32 (by kernel_rfl)
            rw [if_neg (by rw [wanted_off _ a' 15 32 true (by rfl) (by rfl) hg]; decide)]
            exact hK _ _ hI (fun _ _ h => h) rfl
          · intro a' w' K hI hd hq hK
            have hg := hd 15 32 (by kernel_rfl)
            rw [if_neg (by rw [wanted_off _ a' 15 32 true (by rfl) (by rfl) hg]; decide)]
            exact hK _ _ hI (fun _ _ h => h) rfl
          · intro a' w' K hI hd hq hK
            have hg := hd 15 32 (by kernel_rfl)
            rw [if_neg (by rw [wanted_off _ a' 15 32 true (by rfl) (by rfl) hg]; decide)]
            exact hK _ _ hI (fun _ _ h => h) rfl
          · intro a' w' K hI hd hq hK
            have hg := hd 15 32 (by kernel_rfl)
            rw [if_neg (by rw [wanted_off _ a' 15 32 true (by rfl) (by rfl) hg]; decide)]
            exact hK _ _ hI (fun _ _ h => h) rfl
          · intro a' w' K hI hd hq hK
            have hg := hd 15 32 (by kernel_rfl)
            rw [if_neg (by rw [wanted_off _ a' 15 32 true (by rfl) (by rfl) hg]; decide)]
            exact hK _ _ hI (fun _ _ h => h) rfl
          · intro a' w' K hI hd hq hK
            have e32 : a'.eval (.tmp 32) = .bool false := (hd 15 32 (by kernel_rfl))
            have e44 : a'.eval (.tmp 44) = undef := (hd 27 44 (by kernel_rfl))
            clear hd hq
            refine op_value (wanted_free _ _ (by rfl)) (v := .bool false) (w'' := w') ?_ (hK _ _ hI (fun _ _ h => h) rfl)
            clear hK
            simp only [execOp, e32, e44]
            have f32 : a'.tmps[32]?.getD undef = .bool false := (Array.getD_eq_getD_getElem? ..).symm.trans e32
            have f44 : a'.tmps[44]?.getD undef = undef := (Array.getD_eq_getD_getElem? ..).symm.trans e44
            clear e32 e44
            first | rfl | (go_simp <;> exact IntWalk.i64_in _ (by omega))
        case fin3 =>
          rintro w' hI _ rfl _ rfl _ rfl _ rfl _ rfl _ rfl _ rfl _ rfl _ rfl _ rfl _ rfl _ rfl _ rfl _ rfl _ rfl _ rfl _ rfl _ rfl _ rfl _ rfl _ rfl _ rfl _ rfl _ rfl _ rfl _ rfl _ rfl _ rfl _ rfl
          simp only [Act.put, List.setIfInBounds_toArray, List.set_cons_zero, List.set_cons_succ, FinGoal]
          have HIW := Lib.hid hI
          clear hI
          go_wp2_with fail
          go_roundg (i - (j + 1))
          case measure => have := HK.out; have := HLT.out; omega
          case rel =>
            obtain ⟨j', h1, h2, h3, h4⟩ := HR.out _ (by rw [HPY.out]; exact HV2.out.below HIW.out) (Upd.of_below HIW.out)
            exact ⟨j', h1, h2, Eq.trans (by go_num) h3, h4⟩
    · obtain rfl : j = i := by omega
      have HVF := Lib.hid hvf
      clear hk hu hvf hj hlt
      go_wp2_with fail
      go_end0
      exact ⟨rfl, HVF.out, HU.out⟩

end Go.Proofs.Ytjakhemolecbnaa
end

/-
  Claims in memory, and what the walk of Verify wants.
-/
section
set_option linter.unusedVariables false
set_option linter.unusedSimpArgs false
namespace Go.Proofs.Ytjakhemolecbnaa
open Go.RowKit

/-- A claim of one's own, as it lies in memory. -/
structure Cl where
  g : Int
  A : Option Addr
  c : Nat
  l : List UInt8
def Cl.cells (x : Cl) : List Value := [.int .i64 x.g, .slice x.A x.l.length x.c]
def clc (L : List Cl) : List Value := L.flatMap Cl.cells
theorem clc_length (l : List Cl) : (clc l).length = l.length * 2 := by
  induction l with
  | nil => rfl
  | cons m l ih =>
    have e : clc (m :: l) = m.cells ++ clc l := rfl
    rw [e, List.length_append, ih, List.length_cons]
    show 2 + l.length * 2 = _
    omega
theorem clc_append (l m : List Cl) : clc (l ++ m) = clc l ++ clc m := by simp [clc]
theorem clc_get (l : List Cl) (i : Nat) (c : Cl) (h : l[i]? = some c) (j : Nat) (hj : j < 2) : (clc l)[i * 2 + j]? = c.cells[j]? := by
  obtain ⟨hi, rfl⟩ := List.getElem?_eq_some_iff.1 h
  have h1 : l = l.take i ++ l[i] :: l.drop (i + 1) := by
    conv => lhs; rw [← List.take_append_drop i l, List.drop_eq_getElem_cons hi]
  have h2 : clc l = clc (l.take i) ++ (l[i].cells ++ clc (l.drop (i + 1))) := by
    refine (congrArg clc h1).trans ?_
    rw [clc_append]
    rfl
  have h3 : i * 2 = (clc (l.take i)).length := by rw [clc_length, List.length_take]; omega
  rw [h2, List.getElem?_append_right (by omega), ← h3, Nat.add_sub_cancel_left, List.getElem?_append_left (by show j < 2; exact hj)]
/-- A claim that was read, plain. -/
structure Cp where
  group : Int
  M : Lks
  lt : Bool
  recs : List Rp
  whole : Bool
  en : Int
def Cm.p (c : Cm) : Cp := ⟨c.group, c.M, c.lt, c.recs.map Rm.p, c.whole, c.en⟩
def claimP (g : Int) (l : List UInt8) : Cp := match decS l with
  | .inl x => ⟨g, [], false, [], false, x.2⟩
  | .inr M => ⟨g, M, true, (recsOf M).1, (recsOf M).2, if (recsOf M).2 then 0 else ((recsOf M).1.length : Int)⟩
theorem clS_p {g : Int} {l : List UInt8} {C : Cm} (h : clS g l C) : C.p = claimP g l := by
  unfold clS at h
  unfold claimP Cm.p
  obtain ⟨hg, h⟩ := h
  cases hd : decS l with
  | inl x =>
    rw [hd] at h
    obtain ⟨h1, h2, h3, h4, h5⟩ := h
    simp only [hg, h1, h2, h3, h4, h5, List.map_nil]
  | inr M =>
    rw [hd] at h
    obtain ⟨h1, h2, h3, h4, h5⟩ := h
    simp only [hg, h1, h2, h3, h4, h5]
def Cl.p (x : Cl) : Cp := claimP x.g x.l
/-- Claims that lie in memory. -/
structure ClsAt (w : World) (A : Option Addr) (L : List Cl) : Prop where
  r : RC w A (clc L)
  b : ∀ x ∈ L, RB w x.A x.l ∧ (x.A = none → x.c = 0) ∧ x.l.length ≤ 17000000
theorem ClsAt.below {w w' : World} {A : Option Addr} {L : List Cl} (h : ClsAt w A L) (hb : Below w.heap.size w w') : ClsAt w' A L := ⟨h.r.below hb, fun x hx => ⟨(h.b x hx).1.below hb, (h.b x hx).2⟩⟩

def FV (p : Nat) (v : Value) : Nat → Prop := fun k => v.ownBlock = some k ∨ k = p
def CFv (w : World) (p : Nat) (v : Value) (C : Cm) : Prop := ∀ k, FV p v k → CF w k C
theorem CF.upd {F : Nat → Prop} {w w' : World} {q : Nat} {c : Cm} (h : CF w q c) (hF : ∀ k, F k → CF w k c) (u : Upd F w w') : CF w' q c :=
  ⟨⟨h.rl.r.upd u (fun h0 ad e hk => (hF _ hk).rl.off h0 ad e rfl), h.rl.off⟩, ⟨h.rr.r.upd u (fun h0 ad e hk => (hF _ hk).rr.off h0 ad e rfl), h.rr.off⟩,
    fun m hm => ⟨⟨(h.rg m hm).1.r.upd u (fun h0 ad e hk => ((hF _ hk).rg m hm).1.off h0 ad e rfl), (h.rg m hm).1.off⟩, (h.rg m hm).2⟩, h.hh, h.ht, h.lM, h.lR, h.cr⟩
theorem CFv.upd {w w' : World} {p : Nat} {v : Value} {C : Cm} (h : CFv w p v C) (u : Upd (FV p v) w w') : CFv w' p v C := fun k hk => (h k hk).upd h u
theorem cell_lt {w : World} {ad : Addr} {v : Value} (h : w.cell? ad = some v) : ad.block < w.heap.size := by
  by_cases hb : ad.block < w.heap.size
  · exact hb
  · unfold World.cell? at h
    rw [Array.getElem?_eq_none (by omega)] at h
    simp at h
theorem RC.lt_size {w : World} {A : Option Addr} {l : List Value} (h : RC w A l) (h0 : 0 < l.length) (ad : Addr) (e : A = some ad) : ad.block < w.heap.size := by
  obtain ⟨b, o, e2, hc⟩ := RC.part h h0
  rw [e] at e2
  cases e2
  exact cell_lt (hc 0 _ (List.getElem?_eq_getElem h0))
theorem CF.fresh {w : World} {q k : Nat} {c : Cm} (h : CF w q c) (hk : w.heap.size ≤ k) : CF w k c :=
  ⟨⟨h.rl.r, fun h0 ad e => by have := h.rl.r.lt_size h0 ad e; omega⟩, ⟨h.rr.r, fun h0 ad e => by have := h.rr.r.lt_size h0 ad e; omega⟩,
    fun m hm => ⟨⟨(h.rg m hm).1.r, fun h0 ad e => by have := (h.rg m hm).1.r.lt_size h0 ad e; omega⟩, (h.rg m hm).2⟩, h.hh, h.ht, h.lM, h.lR, h.cr⟩
theorem infoClA : (Try.prog.info? 73).map (fun i => (i.zero, i.size, i.bytes)) = some (some (.agg clZ), 6, 80) := by kernel_rfl
theorem builtCl6 (g : Int) (lA : Option Addr) (ml lc : Nat) (lt : Bool) (rA : Option Addr) (rl rc : Nat) (wh : Bool) (en : Int) : Try.prog.builtSlice 73 1 [(0, .agg #[.int .i64 g, .slice lA ml lc, .bool lt, .slice rA rl rc, .bool wh, .int .i64 en])] = some #[.int .i64 g, .slice lA ml lc, .bool lt, .slice rA rl rc, .bool wh, .int .i64 en] := by kernel_rfl
theorem builtCl (C : Cm) : Try.prog.builtSlice 73 1 [(0, .agg C.cells.toArray)] = some C.cells.toArray := builtCl6 _ _ _ _ _ _ _ _ _ _

def V6 (p : Nat) (vl : Value) (x : Cl) (v : Value) (W : World) : Prop := ∃ C : Cm, v = .agg C.cells.toArray ∧ C.p = x.p ∧ CFv W p vl C
def V7 (p : Nat) (vl : Value) (x : Cl) (v : Value) (W : World) : Prop := ∃ (C : Cm) (g : Nat), v = .slice (some ⟨g, 0, none⟩) 1 1 ∧ RC W (some ⟨g, 0, none⟩) C.cells ∧ C.p = x.p ∧ CFv W p vl C ∧ ¬ FV p vl g
def V8 (p B : Nat) (cs : List Cm) (x : Cl) (v : Value) (W : World) : Prop := ∃ (C : Cm) (A : Option Addr) (c : Nat), v = .slice A (cs.length + 1) c ∧ cs.length + 1 ≤ c ∧ W.ownsRow B 73 6 v (cs.length + 1) (cmc (cs ++ [C])) ∧ C.p = x.p ∧ ∀ y ∈ cs ++ [C], CFv W p v y
theorem V6.upd {p : Nat} {vl : Value} {x : Cl} {v : Value} {W W' : World} (h : V6 p vl x v W) (u : Upd (FV p vl) W W') : V6 p vl x v W' := by
  obtain ⟨C, h1, h2, h3⟩ := h
  exact ⟨C, h1, h2, h3.upd u⟩
theorem V7.upd {p : Nat} {vl : Value} {x : Cl} {v : Value} {W W' : World} (h : V7 p vl x v W) (u : Upd (FV p vl) W W') : V7 p vl x v W' := by
  obtain ⟨C, g, h1, h2, h3, h4, h5⟩ := h
  exact ⟨C, g, h1, h2.upd u (fun _ ad e => by cases e; exact h5), h3, h4.upd u, h5⟩
theorem V8.upd {p B : Nat} {cs : List Cm} {x : Cl} {v : Value} {W W' : World} (h : V8 p B cs x v W) (u : Upd (fun k => k = p) W W') (hp : p < B) : V8 p B cs x v W' := by
  obtain ⟨C, A, c, h1, h2, h3, h4, h5⟩ := h
  refine ⟨C, A, c, h1, h2, own_upd h3 u (fun k hk e => by have := (World.ownsRow.lt h3 k hk).1; omega), h4, fun y hy => (h5 y hy).upd (u.mono (fun k _ hk => .inr hk))⟩
/-- What stands in the midst of the append. -/
structure VI (w : World) (p B : Nat) (vl : Value) (cs : List Cm) (l : Array Bool) (W : World) : Prop where
  upd : Upd (FV p vl) w W
  at_ : l.getD 11 false = false → VAt W p vl (0, 0, 0)
  own : l.getD 8 false = false → W.ownsRow B 73 6 vl cs.length (cmc cs)
theorem VI.set {w : World} {p B : Nat} {vl : Value} {cs : List Cm} {l : Array Bool} {W : World} (h : VI w p B vl cs l W) (j : Nat) : VI w p B vl cs (l.setIfInBounds j true) W := ⟨h.upd, fun hl => h.at_ (unset hl), fun hl => h.own (unset hl)⟩
theorem VAt.below {w w' : World} {p : Nat} {vl : Value} {b : Int × Int × Int} (h : VAt w p vl b) (hb : Below w.heap.size w w') : VAt w' p vl b := (hb.block p (Array.getElem?_eq_some_iff.1 h).1).trans h
theorem VI.grow {w : World} {p B : Nat} {vl : Value} {cs : List Cm} {l : Array Bool} {W W' : World} (h : VI w p B vl cs l W) (hb : Below W.heap.size W W') : VI w p B vl cs l W' :=
  ⟨h.upd.below hb, fun hl => (h.at_ hl).below hb, fun hl => own_below (h.own hl) hb⟩
theorem VAt.c0 {w : World} {p : Nat} {vl : Value} {b : Int × Int × Int} (h : VAt w p vl b) : w.cell? ⟨p, 0, none⟩ = some vl := (cell_of_row w p 0 _ _ _ h).trans rfl
theorem setTrue {l : Array Bool} {i : Nat} (h : i < l.size) : (l.setIfInBounds i true).getD i false = true := by
  rw [Array.getD_eq_getD_getElem?, Array.getElem?_setIfInBounds, if_pos rfl, if_pos h]
  rfl

end Go.Proofs.Ytjakhemolecbnaa
end

/-
  The rule by outline where some operations wait for later ones in a mode alone.
-/
section
set_option linter.unusedVariables false
set_option linter.unusedSimpArgs false
namespace Go.Proofs.Ytjakhemolecbnaa
open Go.RowKit
variable {P : Program} {ops : Array Oper} {Q : Exit → Act → World → Prop}

/-- Every operation waits, in any order, for earlier ones alone. -/
def backW (ops : Array Oper) : Bool :=
  (List.range ops.size).all fun i => match ops[i]? with
    | some o => o.after.all fun e => !Region.binds .any e || decide (e.on < i)
    | none => true

theorem acyc_of_backW (h : backW ops = true) : ∀ listed : Array Bool, listed.size = ops.size → Region.ready .any ops listed = [] → ∀ i, i < ops.size → listed.getD i false = true := by
  intro listed hl hr i
  induction i using Nat.strongRecOn with
  | _ i ih =>
    intro hi
    cases hx : listed.getD i false with
    | true => rfl
    | false =>
      exfalso
      have hil : i < listed.size := by rw [hl]; exact hi
      have hm : i ∈ Region.ready .any ops listed := by
        unfold Region.ready
        refine List.mem_filter.2 ⟨List.mem_range.2 hi, ?_⟩
        have ho : ops[i]? = some ops[i] := Array.getElem?_eq_getElem hi
        simp only [ho, Option.map_some, Option.getD_some, Bool.and_eq_true, Bool.not_eq_true']
        refine ⟨by simpa [Array.getD_eq_getD_getElem?, hil] using hx, ?_⟩
        rw [Array.all_eq_true_iff_forall_mem]
        intro e he
        have h1 := List.all_eq_true.1 h i (List.mem_range.2 hi)
        simp only [ho] at h1
        have h2 := Array.all_eq_true_iff_forall_mem.1 h1 e he
        have h2' : (!Region.binds .any e || decide (e.on < i)) = true := h2
        cases hbd : Region.binds .any e with
        | false => simp
        | true =>
          rw [hbd] at h2'
          have h3 : e.on < i := by simpa using h2'
          rw [ih e.on h3 (by omega)]
          simp
      rw [hr] at hm
      cases hm

/-- THE RULE. -/
theorem region_outlineW {id : Nat} {a : Act} {w : World} (I : Array Bool → World → Prop) (φ : Nat → Value → World → Prop) (hm : P.follows .mixedOrders = true)
    (hap : apartB ops a.tmps.size = true) (hback : backW ops = true) (hI : I (Array.replicate ops.size false) w.drew)
    (ok : ∀ i o, ops[i]? = some o → OpOk P ops Q a I φ i o)
    (fin : ∀ (l : Array Bool) (v : Nat → Value) (w' : World), l.size = ops.size → (∀ i, i < ops.size → l.getD i false = true) → I l w' → (∀ j, j < ops.size → φ j (v j) w') → Q .normal (fillFrom v ops.toList 0 a) w') : (Code.region id ops true).wp P Q a w := by
  refine wp_region_any hm ?_
  refine outline_walk (I := I) (φ := φ) hap ok ?_ (acyc_of_backW hback) ops.size _ _ _ ?_ ?_
  · intro listed a' w' h hall
    have hex : ∀ j, ∃ u, j < ops.size → φ j u w' ∧ ∀ o t, ops[j]? = some o → o.dst = some t → a'.tmps.getD t undef = u := by
      intro j
      by_cases hj : j < ops.size
      · have ho : ops[j]? = some ops[j] := Array.getElem?_eq_getElem hj
        cases hd : ops[j].dst with
        | none =>
          obtain ⟨u, hu⟩ := h.bare j _ ho (hall j hj) hd
          exact ⟨u, fun _ => ⟨hu, fun o t h1 h2 => by rw [ho] at h1; cases h1; rw [hd] at h2; cases h2⟩⟩
        | some t =>
          exact ⟨_, fun _ => ⟨h.has j _ t ho (hall j hj) hd, fun o t' h1 h2 => by rw [ho] at h1; cases h1; rw [hd] at h2; cases h2; rfl⟩⟩
      · exact ⟨undef, fun h => absurd h hj⟩
    have hv := fun j => Classical.choose_spec (hex j)
    have e : a' = fillFrom (fun j => Classical.choose (hex j)) ops.toList 0 a := by
      have hsz : a'.tmps = (fillFrom (fun j => Classical.choose (hex j)) ops.toList 0 a).tmps := by
        apply Array.ext
        · rw [fill_size, h.size]
        · intro t h1 h2
          have key : a'.tmps.getD t undef = (fillFrom (fun j => Classical.choose (hex j)) ops.toList 0 a).tmps.getD t undef := by
            by_cases hc : ∃ (j : Nat) (o : Oper), ops[j]? = some o ∧ o.dst = some t
            · obtain ⟨j, o, ho, hd⟩ := hc
              have hj : j < ops.size := (Array.getElem?_eq_some_iff.1 ho).1
              rw [fill_at _ t ops.toList 0 a j o (by simpa using ho) hd (apart_lt hap ho hd) (fun i o' hi hd' => apart_ne hap (by simpa using hi) ho hd' hd)]
              rw [Nat.zero_add]
              exact (hv j hj).2 o t ho hd
            · have hc' : ∀ (j : Nat) (o : Oper), ops[j]? = some o → o.dst ≠ some t := fun j o ho hd => hc ⟨j, o, ho, hd⟩
              rw [h.old t (fun j o ho _ => hc' j o ho), fill_other _ t ops.toList 0 a (fun o ho hd => by
                obtain ⟨i, hi⟩ := List.getElem?_of_mem ho
                exact hc' i o (by simpa using hi) hd)]
          rw [Array.getD_eq_getD_getElem?, Array.getD_eq_getD_getElem?, Array.getElem?_eq_getElem h1, Array.getElem?_eq_getElem h2] at key
          exact key
      have hdf : a'.defers = (fillFrom (fun j => Classical.choose (hex j)) ops.toList 0 a).defers := by rw [fill_defers, h.defers]
      cases a'
      cases hf : fillFrom (fun j => Classical.choose (hex j)) ops.toList 0 a
      rw [hf] at hsz hdf
      cases hsz
      cases hdf
      rfl
    rw [e]
    exact fin _ _ w' h.len hall h.inv (fun j hj => (hv j hj).1)
  · refine ⟨hI, rfl, rfl, by simp, ?_, ?_, ?_, ?_⟩
    · intro j o hj hl
      simp [Array.getD_eq_getD_getElem?, Array.getElem?_replicate] at hl
      split at hl <;> simp at hl
    · intro j o t hj hl
      simp [Array.getD_eq_getD_getElem?, Array.getElem?_replicate] at hl
      split at hl <;> simp at hl
    · intro j o hj hl
      simp [Array.getD_eq_getD_getElem?, Array.getElem?_replicate] at hl
      split at hl <;> simp at hl
    · intro t _
      rfl
  · simp

theorem region_byLW {id : Nat} {a : Act} {w : World} (I : Array Bool → World → Prop) (L : List (Value → World → Prop)) (hm : P.follows .mixedOrders = true)
    (hap : apartB ops a.tmps.size = true) (hback : backW ops = true) (hlen : L.length = ops.toList.length) (hI : I (Array.replicate ops.size false) w.drew)
    (ok : OkAll P ops Q a I L ops.toList 0) (fin : ∀ l w', l.size = ops.size → (∀ i, i < ops.size → l.getD i false = true) → I l w' → FinGoal Q w' L ops.toList a) : (Code.region id ops true).wp P Q a w := by
  refine region_outlineW I (nth L) hm hap hback hI (fun i o h => ?_) (fun l v w' hl1 hl2 hI' hv => ?_)
  · have := ok_all ops.toList 0 ok i o (by simpa using h)
    rwa [Nat.zero_add] at this
  · exact fin_goal v L ops.toList 0 a hlen (fin l w' hl1 hl2 hI') (fun j hj => by rw [Nat.zero_add]; exact hv j (by simpa using hj))

theorem region_byW {id : Nat} {a : Act} {w : World} (I : World → Prop) (L : List (Value → World → Prop)) (hm : P.follows .mixedOrders = true)
    (hap : apartB ops a.tmps.size = true) (hback : backW ops = true) (hlen : L.length = ops.toList.length) (hI : I w.drew)
    (ok : OkAll1 P ops Q a I L ops.toList 0) (fin : ∀ w', I w' → FinGoal Q w' L ops.toList a) : (Code.region id ops true).wp P Q a w :=
  region_byLW (fun _ w' => I w') L hm hap hback hlen hI (ok_of_1 ops.toList 0 ok) (fun _ w' _ _ hI' => fin w' hI')


end Go.Proofs.Ytjakhemolecbnaa
end

/-
  The walk of Verify.
-/
section
set_option linter.unusedVariables false
set_option linter.unusedSimpArgs false
namespace Go.Proofs.Ytjakhemolecbnaa
open Go.RowKit

def fltZ : Array Value := #[.int .i64 0, .int .i64 0, .int .i64 0]
def verZ : Array Value := #[.slice none 0 0, .int .i64 0, .int .i64 0, .int .i64 0]

/-- Whether a record breaks a rule. -/
def brk (cs : List Cm) (i : Nat) (c : Cm) (at' : Nat) (m : Rm) (k : Nat) : Bool := match k with
  | 0 => twiceS (c.recs.take at') m
  | 1 => bothS cs i m
  | 2 => bareS (c.recs.take at') m
  | _ => strangeS cs i c.group m
def ruleB (cs : List Cm) (i : Nat) (c : Cm) (at' : Nat) (m : Rm) (b : Int × Int × Int) (k : Nat) : Int × Int × Int := if brk cs i c at' m k = true then bestOf b (4 + (k : Int), (i : Int), (at' : Int)) else b
def recB (cs : List Cm) (i : Nat) (c : Cm) (b : Int × Int × Int) (at' : Nat) : Int × Int × Int := match c.recs[at']? with
  | some m => (List.range 4).foldl (ruleB cs i c at' m) b
  | none => b
def clB (cs : List Cm) (b : Int × Int × Int) (i : Nat) : Int × Int × Int := match cs[i]? with
  | some c => if c.lt = false then bestOf b (1, (i : Int), c.en) else if c.whole = false then bestOf b (2, (i : Int), c.en) else (List.range c.recs.length).foldl (recB cs i c) (prefixesB cs c i b)
  | none => b
/-- What Verify finds. -/
def verS (cs : List Cm) : Int × Int × Int := (List.range cs.length).foldl (clB cs) (0, 0, 0)
theorem infoFlt : (Try.prog.info? 33).map (·.size) = some 3 := by kernel_rfl
def rulesV (p : Nat) : Array Value := #[.func (.func 28) #[.pointer (some ⟨p, 0, none⟩)] #[], .func (.func 29) #[.pointer (some ⟨p, 0, none⟩)] #[], .func (.func 30) #[.pointer (some ⟨p, 0, none⟩)] #[], .func (.func 31) #[.pointer (some ⟨p, 0, none⟩)] #[]]

set_option maxRecDepth 100000 in
set_option maxHeartbeats 16000000 in
theorem verify_any (A : Option Addr) (n c : Nat) (L : List Cl) (w : World) (hl : L.length = n) (hn : n ≤ 1000) (hr : ClsAt w A L) :
    Calls Try.prog 10 #[.slice A n c] w fun e w' => ∃ cs : List Cm, cs.map Cm.p = L.map Cl.p ∧ e = .returned (.tuple #[.agg #[.int .i64 (verS cs).1, .int .i64 (verS cs).2.1, .int .i64 (verS cs).2.2], .bool ((verS cs).1 == 0)]) ∧ Below w.heap.size w w' := by
  subst hl
  have HR := Lib.hid hr
  have HN := Lib.hid hn
  clear hr
  have hb2 : Below w.heap.size w ((w.alloc (.cells fltZ 33)).alloc (.cells verZ 70)) := ((Below.refl _ _).alloc (Nat.le_refl _) _).alloc (by simp) _
  have hz2 : ((w.alloc (.cells fltZ 33)).alloc (.cells verZ 70)).heap[w.heap.size]? = some (.cells fltZ 33 (0, 0)) := (Below.heap_alloc _ _ _ (by simp)).trans (heap_alloc_new w _)
  have hp2 : VAt ((w.alloc (.cells fltZ 33)).alloc (.cells verZ 70)) (w.heap.size + 1) (.slice none 0 0) (0, 0, 0) := by
    have h := heap_alloc_new (w.alloc (.cells fltZ 33)) (.cells verZ 70)
    simpa [VAt, verZ] using h
  have hs2 : ((w.alloc (.cells fltZ 33)).alloc (.cells verZ 70)).heap.size = w.heap.size + 2 := by simp
  obtain ⟨w2, hw2⟩ : ∃ w2, w2 = ((w.alloc (.cells fltZ 33)).alloc (.cells verZ 70)) := ⟨_, rfl⟩
  rw [← hw2] at hb2 hz2 hp2 hs2
  obtain ⟨bz, hbz⟩ : ∃ bz, bz = w.heap.size := ⟨_, rfl⟩
  obtain ⟨p, hp⟩ : ∃ p, p = w.heap.size + 1 := ⟨_, rfl⟩
  rw [← hbz] at hz2
  rw [← hp] at hp2
  have HB2 := Lib.hid hb2
  have HZ2 := Lib.hid hz2
  have HP2 := Lib.hid hp2
  have HW2 := Lib.hid hw2
  have HS2 := Lib.hid hs2
  have HBZ := Lib.hid hbz
  have HP := Lib.hid hp
  clear hb2 hz2 hp2 hw2 hs2 hbz hp
  go_enter Try.func10, Try.ntmps10
  go_upto_region 2 with fail
  rw [show ((w.alloc (.cells #[.int .i64 0, .int .i64 0, .int .i64 0] 33)).alloc (.cells #[.slice none 0 0, .int .i64 0, .int .i64 0, .int .i64 0] 70)) = w2 from HW2.out.symm, ← HP.out, ← HBZ.out]
  obtain ⟨Bq, hBq⟩ : ∃ Bq, Bq = w2.heap.size := ⟨_, rfl⟩
  have HBQ2 := Lib.hid hBq
  have HPB := Lib.hid (show p < Bq by have := HP.out; have := HS2.out; omega)
  clear hBq
  go_wp2_with fail
  go_loopg [18] L.length (fun k s18 wr => ∃ (i : Nat) (cs : List Cm) (vl : Value), i ≤ L.length ∧ k = L.length - i ∧ s18 = .int .i64 (i : Int) ∧ cs.length = i ∧ VAt wr p vl (0, 0, 0) ∧ wr.ownsRow Bq 73 6 vl i (cmc cs) ∧ (∀ y ∈ cs, CFv wr p vl y) ∧ cs.map Cm.p = (L.take i).map Cl.p ∧ Upd (fun k => k = p) w2 wr)
  case atStart => exact ⟨0, [], _, Nat.zero_le _, by omega, rfl, rfl, HP2.out, World.ownsRow_nil _ _ _ _, (fun y hy => by cases hy), rfl, Upd.refl _ _⟩
  case round =>
    obtain ⟨i, cs, vl, hi, hk, rfl, hcs, hat, how, hcf, hmp, hu⟩ := hrel
    subst hcs
    obtain ⟨Av, cv, rfl, hcv⟩ := own_slice how
    have HK := Lib.hid hk
    have HAT := Lib.hid hat
    have HOW := Lib.hid how
    have HCF := Lib.hid hcf
    have HMP := Lib.hid hmp
    have HU := Lib.hid hu
    have HCV := Lib.hid hcv
    have HB := Lib.hid (show Below w.heap.size w wr from below_upd HB2.out HB2.out.size hu (fun k hk => by have := HP.out; omega))
    clear hk hat how hcf hmp hu hcv
    by_cases hlt : cs.length < L.length
    · obtain ⟨x, hx⟩ : ∃ x, L[cs.length]? = some x := ⟨_, List.getElem?_eq_getElem hlt⟩
      have HXM := Lib.hid (List.mem_of_getElem? hx)
      have HTK := Lib.hid (show (L.take (cs.length + 1)).map Cl.p = (L.take cs.length).map Cl.p ++ [x.p] by
        obtain ⟨h1, h2⟩ := List.getElem?_eq_some_iff.1 hx
        rw [List.take_succ_eq_append_getElem hlt, List.map_append, h2]
        rfl)
      obtain ⟨b1, o1, rfl, e1⟩ := (HR.out.r).part (by rw [clc_length]; omega)
      have q0 : wr.cell? ⟨b1, o1 + cs.length * 2, none⟩ = some (.int .i64 x.g) := cell_below HB.out (e1 _ _ ((clc_get L cs.length x hx 0 (by omega)).trans rfl))
      have q1 : wr.cell? ⟨b1, o1 + cs.length * 2 + 1, none⟩ = some (.slice x.A x.l.length x.c) := by
        rw [Nat.add_assoc]
        exact cell_below HB.out (e1 _ _ ((clc_get L cs.length x hx 1 (by omega)).trans rfl))
      have hi0 : (0 : Int) ≤ (cs.length : Int) := by omega
      have hi1 : (cs.length : Int) < (L.length : Int) := by omega
      have hb5 : Below wr.heap.size wr (wr.alloc (.cells #[.int .i64 x.g, .slice x.A x.l.length x.c] 27)) := (Below.refl _ _).alloc (Nat.le_refl _) _
      have hx5 := heap_alloc_new wr (.cells #[.int .i64 x.g, .slice x.A x.l.length x.c] 27)
      obtain ⟨w5, hw5⟩ : ∃ w5, w5 = wr.alloc (.cells #[.int .i64 x.g, .slice x.A x.l.length x.c] 27) := ⟨_, rfl⟩
      rw [← hw5] at hb5 hx5
      obtain ⟨g6, hg6⟩ : ∃ g6, g6 = wr.heap.size := ⟨_, rfl⟩
      obtain ⟨xg, hxg⟩ : ∃ xg, xg = x.g := ⟨_, rfl⟩
      obtain ⟨xA, hxA⟩ : ∃ xA, xA = x.A := ⟨_, rfl⟩
      obtain ⟨xc, hxc⟩ : ∃ xc, xc = x.c := ⟨_, rfl⟩
      have hg6l : g6 < w5.heap.size := by rw [hw5, hg6]; simp
      rw [← hg6] at hx5
      have HW5 := Lib.hid hw5
      have HG6 := Lib.hid hg6
      have HB5 := Lib.hid hb5
      have HX6 := Lib.hid (show ∀ W, Upd (FV p (.slice Av cs.length cv)) w5 W → W.cell? ⟨g6, 0, none⟩ = some (.int .i64 xg) ∧ W.cell? ⟨g6, 1, none⟩ = some (.slice xA x.l.length xc) from fun W hW => by
        have h := (hW.block g6 hg6l (by
          rintro (h | h)
          · have := (World.ownsRow.lt HOW.out _ h).2; omega
          · have := (Array.getElem?_eq_some_iff.1 HAT.out).1; omega)).trans hx5
        rw [hxg, hxA, hxc]
        exact ⟨(cell_of_row W g6 0 _ _ _ h).trans rfl, (cell_of_row W g6 1 _ _ _ h).trans rfl⟩)
      have HX := Lib.hid (show ∀ W, Upd (FV p (.slice Av cs.length cv)) w5 W → RB W xA x.l ∧ xg = x.g ∧ True ∧ (xA = none → xc = 0) ∧ x.l.length ≤ 17000000 from fun W hW => by
        have h := HR.out.b x HXM.out
        rw [hxg, hxA, hxc]
        have hBW : Below w.heap.size w W := (HB.out.alloc HB.out.size (.cells #[.int .i64 x.g, .slice x.A x.l.length x.c] 27) |> fun h1 => below_upd (by rw [← HW5.out] at h1; exact h1) (by have := HB5.out.size; have := HB.out.size; omega) hW (fun k hk => by
          rcases hk with hk | hk
          · have := (World.ownsRow.lt HOW.out _ hk).1; have := HBQ2.out; have := HS2.out; omega
          · have := HP.out; omega))
        exact ⟨h.1.below hBW, rfl, trivial, h.2.1, h.2.2⟩)
      have HI0 := Lib.hid (show VI w5 p Bq (.slice Av cs.length cv) cs (Array.replicate 12 false) w5.drew from ⟨(Upd.refl _ _).drew, fun _ => (HAT.out.below hb5).below ((Below.refl _ _).drew), fun _ => own_below (own_below HOW.out hb5) ((Below.refl _ _).drew)⟩)
      have HCFS := Lib.hid (show ∀ y ∈ cs, CFv w5 p (.slice Av cs.length cv) y from fun y hy => (HCF.out y hy).upd (Upd.of_below hb5))
      have HCL := Lib.hid (show cs.length ≤ 1000 by have := HN.out; omega)
      have HBQ := Lib.hid (show Bq ≤ w5.heap.size by have := HBQ2.out; have := HU.out.size; have := hb5.size; omega)
      have HLT := Lib.hid hlt
      clear hx e1 hb5 hx5 hw5 hg6 hxg hxA hxc hg6l hlt hi
      go_upto_region 5 with fail
      rw [show wr.alloc (.cells #[.int .i64 x.g, .slice x.A x.l.length x.c] 27) = w5 from HW5.out.symm, ← HG6.out]
      refine region_byM (VI w5 p Bq (.slice Av cs.length cv) cs) [(fun v _ => v = .pointer (some ⟨p, 0, none⟩)), (fun v _ => v = .pointer (some ⟨p, 0, none⟩)), (fun v _ => v = .pointer (some ⟨p, 0, none⟩)), (fun v _ => v = .pointer (some ⟨p, 0, none⟩)), fun v _ => v = .slice Av cs.length cv, (fun v _ => v = .agg #[.int .i64 xg, .slice xA x.l.length xc]), fun v W => V6 p (.slice Av cs.length cv) x v W, fun v W => V7 p (.slice Av cs.length cv) x v W, fun v W => V8 p Bq cs x v W, (fun v _ => v = .pointer (some ⟨p, 0, none⟩)), (fun v _ => v = .pointer (some ⟨p, 0, none⟩)), fun _ W => ∃ v, VAt W p v (0, 0, 0) ∧ V8 p Bq cs x v W] (by kernel_rfl) (by kernel_rfl) (by kernel_rfl) rfl (HI0.out) ?ok5 ?fin5
      case ok5 =>
        refine ⟨?_, ?_, ?_, ?_, ?_, ?_, ?_, ?_, ?_, ?_, ?_, ?_, trivial⟩
        · intro l a' w' K hI hcl hsz hn hd hq hK
          have e4 : a'.eval (.tmp 4) = .pointer (some ⟨p, 0, none⟩) := (hq 4 (by kernel_rfl)).trans rfl
          clear hd hq hcl hsz hn
          refine op_value (wanted_free _ _ (by rfl)) (v := .pointer (some ⟨p, 0, none⟩)) (w'' := w') ?_ (hK _ _ (hI.set _) (fun _ _ _ h => h) rfl)
          clear hK
          simp only [execOp, e4]
          have f4 : a'.tmps[4]?.getD undef = .pointer (some ⟨p, 0, none⟩) := (Array.getD_eq_getD_getElem? ..).symm.trans e4
          clear e4
          first | rfl | (go_simp <;> exact IntWalk.i64_in _ (by omega))
        · intro l a' w' K hI hcl hsz hn hd hq hK
          have e4 : a'.eval (.tmp 4) = .pointer (some ⟨p, 0, none⟩) := (hq 4 (by kernel_rfl)).trans rfl
          clear hd hq hcl hsz hn
          refine op_value (wanted_free _ _ (by rfl)) (v := .pointer (some ⟨p, 0, none⟩)) (w'' := w') ?_ (hK _ _ (hI.set _) (fun _ _ _ h => h) rfl)
          clear hK
          simp only [execOp, e4]
          have f4 : a'.tmps[4]?.getD undef = .pointer (some ⟨p, 0, none⟩) := (Array.getD_eq_getD_getElem? ..).symm.trans e4
          clear e4
          first | rfl | (go_simp <;> exact IntWalk.i64_in _ (by omega))
        · intro l a' w' K hI hcl hsz hn hd hq hK
          have e23 : a'.eval (.tmp 23) = .pointer (some ⟨p, 0, none⟩) := (hd 1 23 (by kernel_rfl))
          clear hd hq hcl hsz hn
          refine op_value (wanted_free _ _ (by rfl)) (v := .pointer (some ⟨p, 0, none⟩)) (w'' := w') ?_ (hK _ _ (hI.set _) (fun _ _ _ h => h) rfl)
          clear hK
          simp only [execOp, e23]
          have f23 : a'.tmps[23]?.getD undef = .pointer (some ⟨p, 0, none⟩) := (Array.getD_eq_getD_getElem? ..).symm.trans e23
          clear e23
          first | rfl | (go_simp <;> exact IntWalk.i64_in _ (by omega))
        · intro l a' w' K hI hcl hsz hn hd hq hK
          have e24 : a'.eval (.tmp 24) = .pointer (some ⟨p, 0, none⟩) := (hd 2 24 (by kernel_rfl))
          clear hd hq hcl hsz hn
          refine op_value (wanted_free _ _ (by rfl)) (v := .pointer (some ⟨p, 0, none⟩)) (w'' := w') ?_ (hK _ _ (hI.set _) (fun _ _ _ h => h) rfl)
          clear hK
          simp only [execOp, e24]
          have f24 : a'.tmps[24]?.getD undef = .pointer (some ⟨p, 0, none⟩) := (Array.getD_eq_getD_getElem? ..).symm.trans e24
          clear e24
          first | rfl | (go_simp <;> exact IntWalk.i64_in _ (by omega))
        · intro l a' w' K hI hcl hsz hn hd hq hK
          have e25 : a'.eval (.tmp 25) = .pointer (some ⟨p, 0, none⟩) := (hd 3 25 (by kernel_rfl))
          clear hd hq
          have h8 : l.getD 8 false = false := hcl 8 4 (by kernel_rfl) hn
          have h9 : l.getD 9 false = false := hcl 9 8 (by kernel_rfl) h8
          have h10 : l.getD 10 false = false := hcl 10 9 (by kernel_rfl) h9
          have h11 : l.getD 11 false = false := hcl 11 10 (by kernel_rfl) h10
          have cx := (hI.at_ h11).c0
          refine op_value (wanted_free _ _ (by rfl)) (v := .slice Av cs.length cv) (w'' := w') ?_ (hK _ _ (hI.set _) (fun _ _ _ h => h) rfl)
          clear hK
          simp only [execOp, e25]
          have f25 : a'.tmps[25]?.getD undef = .pointer (some ⟨p, 0, none⟩) := (Array.getD_eq_getD_getElem? ..).symm.trans e25
          clear e25 hI h8 h9 h10 h11
          go_simp
        · intro l a' w' K hI hcl hsz hn hd hq hK
          have e6 : a'.eval (.tmp 6) = .pointer (some ⟨g6, 0, none⟩) := (hq 6 (by kernel_rfl)).trans rfl
          clear hd hq hcl hsz hn
          have cx0 := (HX6.out w' hI.upd).1
          have cx1 := (HX6.out w' hI.upd).2
          refine op_value (wanted_free _ _ (by rfl)) (v := .agg #[.int .i64 xg, .slice xA x.l.length xc]) (w'' := w') ?_ (hK _ _ (hI.set _) (fun _ _ _ h => h) rfl)
          clear hK
          simp only [execOp, e6]
          have f6 : a'.tmps[6]?.getD undef = .pointer (some ⟨g6, 0, none⟩) := (Array.getD_eq_getD_getElem? ..).symm.trans e6
          clear e6
          first | rfl | (go_simp <;> exact IntWalk.i64_in _ (by omega))
        · intro l a' w' K hI hcl hsz hn hd hq hK
          have e27 : a'.eval (.tmp 27) = .agg #[.int .i64 xg, .slice xA x.l.length xc] := (hd 5 27 (by kernel_rfl))
          clear hd hq
          have h7 : l.getD 7 false = false := hcl 7 6 (by kernel_rfl) hn
          have h8 : l.getD 8 false = false := hcl 8 7 (by kernel_rfl) h7
          have h9 : l.getD 9 false = false := hcl 9 8 (by kernel_rfl) h8
          have h10 : l.getD 10 false = false := hcl 10 9 (by kernel_rfl) h9
          have h11 : l.getD 11 false = false := hcl 11 10 (by kernel_rfl) h10
          refine op_call #[.agg #[.int .i64 xg, .slice xA x.l.length xc]] (wanted_free _ _ (by rfl)) rfl Try.func27 (by kernel_rfl) rfl (by simp only [List.map_toArray, List.map_cons, List.map_nil, e27]) ?_
          obtain ⟨hx1, hx2, hx3, hx4, hx5⟩ := HX.out w' hI.upd
          refine (readc_any xg xA x.l.length xc x.l w' rfl hx5 hx1 hx4).mono ?_
          rintro e w6 ⟨C, rfl, hb6, hcl6, hcf6⟩
          have hlt : ∀ k, FV p (.slice Av cs.length cv) k → k < w'.heap.size := fun k hk => by
            rcases hk with hk | hk
            · exact (World.ownsRow.lt (hI.own h8) k hk).2
            · rw [hk]; exact (Array.getElem?_eq_some_iff.1 (hI.at_ h11)).1
          exact ⟨_, rfl, hK _ _ ((hI.grow hb6).set _) (fun j u => by match j with | 0 => exact fun _ h => h | 1 => exact fun _ h => h | 2 => exact fun _ h => h | 3 => exact fun _ h => h | 4 => exact fun _ h => h | 5 => exact fun _ h => h | 6 => exact fun hl _ => absurd hl (by rw [hn]; decide) | 7 => exact fun hl _ => absurd hl (by rw [h7]; decide) | 8 => exact fun hl _ => absurd hl (by rw [h8]; decide) | 9 => exact fun _ h => h | 10 => exact fun _ h => h | 11 => exact fun hl _ => absurd hl (by rw [h11]; decide) | _ + 12 => exact fun _ _ => trivial) ⟨C, rfl, by rw [clS_p hcl6]; show claimP _ _ = claimP _ _; rw [hx2], fun k hk => hcf6 k (hlt k hk)⟩⟩
        · intro l a' w' K hI hcl hsz hn hd hq hK
          have e28 := hd 6 28 (by kernel_rfl)
          clear hd hq
          obtain ⟨C, e28, hcp, hcv⟩ := (show V6 p (.slice Av cs.length cv) x (a'.eval (.tmp 28)) w' from e28)
          have h8 : l.getD 8 false = false := hcl 8 7 (by kernel_rfl) hn
          have h9 : l.getD 9 false = false := hcl 9 8 (by kernel_rfl) h8
          have h10 : l.getD 10 false = false := hcl 10 9 (by kernel_rfl) h9
          have h11 : l.getD 11 false = false := hcl 11 10 (by kernel_rfl) h10
          have hb7 : Below w'.heap.size w' (w'.alloc (.cells C.cells.toArray 73)) := (Below.refl _ _).alloc (Nat.le_refl _) _
          have hlt : ∀ k, FV p (.slice Av cs.length cv) k → k < w'.heap.size := fun k hk => by
            rcases hk with hk | hk
            · exact (World.ownsRow.lt (hI.own h8) k hk).2
            · rw [hk]; exact (Array.getElem?_eq_some_iff.1 (hI.at_ h11)).1
          refine op_buildSlice (wanted_free _ _ (by rfl)) 68 73 1 _ rfl Try.underlying68 C.cells.toArray (by simp only [List.map_toArray, List.map_cons, List.map_nil, e28]; exact builtCl C) ?_
          refine hK _ _ ((hI.grow hb7).set _) (fun j u => by match j with | 0 => exact fun _ h => h | 1 => exact fun _ h => h | 2 => exact fun _ h => h | 3 => exact fun _ h => h | 4 => exact fun _ h => h | 5 => exact fun _ h => h | 6 => exact fun _ h => h.upd (Upd.of_below hb7) | 7 => exact fun hl _ => absurd hl (by rw [hn]; decide) | 8 => exact fun hl _ => absurd hl (by rw [h8]; decide) | 9 => exact fun _ h => h | 10 => exact fun _ h => h | 11 => exact fun hl _ => absurd hl (by rw [h11]; decide) | _ + 12 => exact fun _ _ => trivial) ⟨C, w'.heap.size, rfl, RC_newL w' C.cells _, hcp, hcv.upd (Upd.of_below hb7), fun h => Nat.lt_irrefl _ (hlt _ h)⟩
        · intro l a' w' K hI hcl hsz hn hd hq hK
          have e26 : a'.eval (.tmp 26) = .slice Av cs.length cv := (hd 4 26 (by kernel_rfl))
          have e29 := hd 7 29 (by kernel_rfl)
          clear hd hq
          obtain ⟨C, gN, e29, hrc, hcp, hcv, hng⟩ := (show V7 p (.slice Av cs.length cv) x (a'.eval (.tmp 29)) w' from e29)
          have h9 : l.getD 9 false = false := hcl 9 8 (by kernel_rfl) hn
          have h10 : l.getD 10 false = false := hcl 10 9 (by kernel_rfl) h9
          have h11 : l.getD 11 false = false := hcl 11 10 (by kernel_rfl) h10
          refine step_append_any rfl (.tmp 26) (.tmp 29) 68 rfl Bq 73 (.agg clZ) 6 80 Try.underlying68 infoClA (by kernel_rfl) (by omega) (by omega) (.slice Av cs.length cv) cs.length (cmc cs) e26 (hI.own hn) (some ⟨gN, 0, none⟩) 1 1 C.cells e29 rfl hrc (by intro u hu; simp only [Cm.cells, List.mem_cons, List.not_mem_nil, or_false] at hu; rcases hu with rfl | rfl | rfl | rfl | rfl | rfl <;> rfl) (by have := HCL.out; omega) (Nat.le_trans HBQ.out hI.upd.size) ?_
          intro v9 w9 ho9 hg9 hat9
          have hu9 : Upd (fun k => (Value.slice Av cs.length cv).ownBlock = some k) w' w9 := (Upd.refl _ w').grown hg9 (fun k hk _ => hk)
          have hu9' : Upd (FV p (.slice Av cs.length cv)) w' w9 := hu9.mono (fun k _ hk => .inl hk)
          have hbase : ∀ k, (Value.slice Av cs.length cv).ownBlock = some k → Bq ≤ k := fun k hk => ((hI.own hn).lt k hk).1
          have hI2 : VI w5 p Bq (.slice Av cs.length cv) cs (l.setIfInBounds 8 true) w9 := ⟨hI.upd.trans hu9' (fun _ _ h => h), fun h => by
            have h2 := hI.at_ (unset h)
            exact (hu9.block p (Array.getElem?_eq_some_iff.1 h2).1 (fun e => by have := hbase _ e; have := HPB.out; omega)).trans h2, fun h => by
            exfalso
            rw [setTrue (by rw [hsz]; exact of_decide_eq_true (by kernel_rfl))] at h
            cases h⟩
          have hall : ∀ y ∈ cs ++ [C], CFv w' p (.slice Av cs.length cv) y := fun y hy => by
            rcases List.mem_append.1 hy with h | h
            · exact (HCFS.out y h).upd hI.upd
            · rw [List.mem_singleton.1 h]
              exact hcv
          have hres : V8 p Bq cs x v9 w9 := by
            obtain ⟨A9, c9, rfl, hc9⟩ := own_slice ho9
            refine ⟨C, A9, c9, rfl, hc9, by rw [cmc_append]; simpa [cmc] using ho9, hcp, fun y hy k hk => ?_⟩
            rcases hk with hk | hk
            · rcases hat9 with h | h
              · exact (hall y hy).upd hu9' k (.inl (h.symm.trans hk))
              · rw [h] at hk
                have hk2 := Option.some.inj hk
                exact ((hall y hy p (.inr rfl)).fresh (Nat.le_of_eq hk2)).upd (hall y hy) hu9'
            · rw [hk]; exact (hall y hy).upd hu9' p (.inr rfl)
          exact hK _ _ hI2 (fun j u => by match j with | 0 => exact fun _ h => h | 1 => exact fun _ h => h | 2 => exact fun _ h => h | 3 => exact fun _ h => h | 4 => exact fun _ h => h | 5 => exact fun _ h => h | 6 => exact fun _ h => h.upd hu9' | 7 => exact fun _ h => h.upd hu9' | 8 => exact fun hl _ => absurd hl (by rw [hn]; decide) | 9 => exact fun _ h => h | 10 => exact fun _ h => h | 11 => exact fun hl _ => absurd hl (by rw [h11]; decide) | _ + 12 => exact fun _ _ => trivial) hres
        · intro l a' w' K hI hcl hsz hn hd hq hK
          have e22 : a'.eval (.tmp 22) = .pointer (some ⟨p, 0, none⟩) := (hd 0 22 (by kernel_rfl))
          clear hd hq hcl hsz hn
          refine op_value (wanted_free _ _ (by rfl)) (v := .pointer (some ⟨p, 0, none⟩)) (w'' := w') ?_ (hK _ _ (hI.set _) (fun _ _ _ h => h) rfl)
          clear hK
          simp only [execOp, e22]
          have f22 : a'.tmps[22]?.getD undef = .pointer (some ⟨p, 0, none⟩) := (Array.getD_eq_getD_getElem? ..).symm.trans e22
          clear e22
          first | rfl | (go_simp <;> exact IntWalk.i64_in _ (by omega))
        · intro l a' w' K hI hcl hsz hn hd hq hK
          have e31 : a'.eval (.tmp 31) = .pointer (some ⟨p, 0, none⟩) := (hd 9 31 (by kernel_rfl))
          clear hd hq hcl hsz hn
          refine op_value (wanted_free _ _ (by rfl)) (v := .pointer (some ⟨p, 0, none⟩)) (w'' := w') ?_ (hK _ _ (hI.set _) (fun _ _ _ h => h) rfl)
          clear hK
          simp only [execOp, e31]
          have f31 : a'.tmps[31]?.getD undef = .pointer (some ⟨p, 0, none⟩) := (Array.getD_eq_getD_getElem? ..).symm.trans e31
          clear e31
          first | rfl | (go_simp <;> exact IntWalk.i64_in _ (by omega))
        · intro l a' w' K hI hcl hsz hn hd hq hK
          have e32 : a'.eval (.tmp 32) = .pointer (some ⟨p, 0, none⟩) := (hd 10 32 (by kernel_rfl))
          have e30 := hd 8 30 (by kernel_rfl)
          clear hd hq
          have e30' := (show V8 p Bq cs x (a'.eval (.tmp 30)) w' from e30)
          have e31 := e30'
          obtain ⟨C, A9, c9, h30, _, _, _, _⟩ := e30'
          rw [h30] at e31
          have ha := hI.at_ hn
          have hf0 := frozen_of_row w' p 0 _ _ ha
          have hc0 := ha.c0
          have hu11 : Upd (fun k => k = p) w' (w'.setCell ⟨p, 0, none⟩ (.slice A9 (cs.length + 1) c9)) := (Upd.refl (fun k => k = p) w').setCell (p := ⟨p, 0, none⟩) (fun _ => rfl) _
          have hu11' : Upd (FV p (.slice Av cs.length cv)) w' (w'.setCell ⟨p, 0, none⟩ (.slice A9 (cs.length + 1) c9)) := hu11.mono (fun k _ hk => .inr hk)
          have ha2 : VAt (w'.setCell ⟨p, 0, none⟩ (.slice A9 (cs.length + 1) c9)) p (.slice A9 (cs.length + 1) c9) (0, 0, 0) := by
            unfold VAt
            rw [setCell_at ha _]
            rfl
          have hv8 : V8 p Bq cs x (.slice A9 (cs.length + 1) c9) (w'.setCell ⟨p, 0, none⟩ (.slice A9 (cs.length + 1) c9)) := V8.upd e31 hu11 HPB.out
          refine op_skip (wanted_free _ _ (by rfl)) rfl (w'' := w'.setCell ⟨p, 0, none⟩ (.slice A9 (cs.length + 1) c9)) ?_ (hK undef _ ⟨hI.upd.trans hu11' (fun _ _ h => h), (fun h => absurd (h.symm.trans (setTrue (by rw [hsz]; exact of_decide_eq_true (by kernel_rfl)))) (by decide)), fun h => own_upd (hI.own (unset h)) hu11 (fun k hk e => by have := ((hI.own (unset h)).lt k hk).1; have := HPB.out; omega)⟩ (fun j u => by match j with | 0 => exact fun _ h => h | 1 => exact fun _ h => h | 2 => exact fun _ h => h | 3 => exact fun _ h => h | 4 => exact fun _ h => h | 5 => exact fun _ h => h | 6 => exact fun _ h => h.upd hu11' | 7 => exact fun _ h => h.upd hu11' | 8 => exact fun _ h => h.upd hu11 HPB.out | 9 => exact fun _ h => h | 10 => exact fun _ h => h | 11 => exact fun hl _ => absurd hl (by rw [hn]; decide) | _ + 12 => exact fun _ _ => trivial) ⟨_, ha2, hv8⟩)
          clear hK
          simp only [execOp, e32]
          have f32 : a'.tmps[32]?.getD undef = .pointer (some ⟨p, 0, none⟩) := (Array.getD_eq_getD_getElem? ..).symm.trans e32
          have f30 : a'.tmps[30]?.getD undef = .slice A9 (cs.length + 1) c9 := (Array.getD_eq_getD_getElem? ..).symm.trans h30
          clear e32 e30 e31 hI hu11 hu11' ha2 hv8 ha h30
          go_simp
      case fin5 =>
        rintro l w' hsz hall hI _ rfl _ rfl _ rfl _ rfl _ rfl _ rfl _ _ _ _ _ _ _ rfl _ rfl _ hfin
        simp only [Act.put, List.setIfInBounds_toArray, List.set_cons_zero, List.set_cons_succ, FinGoal]
        obtain ⟨v, hva, C, A9, c9, rfl, hc9, ho9, hcp, hcf9⟩ := hfin
        have HVA := Lib.hid hva
        have HO9 := Lib.hid ho9
        have HCP := Lib.hid hcp
        have HCF9 := Lib.hid hcf9
        have HIU := Lib.hid hI.upd
        clear hva ho9 hcp hcf9 hI hc9
        go_wp2_with fail
        go_roundg (L.length - (cs.length + 1))
        case measure => have := HK.out; have := HLT.out; omega
        case rel =>
          refine ⟨cs.length + 1, cs ++ [C], .slice A9 (cs.length + 1) c9, HLT.out, rfl, (by first | rfl | (have := HCL.out; rw [wrap64_small (by omega) (by omega)]; rfl)), by simp, HVA.out, HO9.out, HCF9.out, ?_, ?_⟩
          · rw [List.map_append, HMP.out, HTK.out]
            simp [HCP.out]
          · exact (HU.out.below HB5.out).trans HIU.out (fun k hk e => by
              rcases e with e | e
              · have := (World.ownsRow.lt HOW.out _ e).1; have := HBQ2.out; omega
              · exact e)
    · have hle : cs.length = L.length := by omega
      have HMQ := Lib.hid (show cs.map Cm.p = L.map Cl.p by rw [HMP.out, hle, List.take_length])
      have HVF := Lib.hid (show VF wr p Av cv cs (0, 0, 0) from ⟨HAT.out, RCo.of_own HOW.out HPB.out, fun y hy => HCF.out y hy p (.inr rfl), by have := HN.out; omega⟩)
      have HCL := Lib.hid (show cs.length ≤ 1000 by have := HN.out; omega)
      have hnl : ¬ ((cs.length : Int) < (L.length : Int)) := by omega
      have HZR := Lib.hid (show wr.heap[bz]? = some (.cells fltZ 33 (0, 0)) from (HU.out.block bz (by have := HS2.out; have := HBZ.out; omega) (by have := HP.out; have := HBZ.out; omega)).trans HZ2.out)
      clear hle hlt hi HMP HAT HOW HCF HK HU
      have hmf : ∀ (fn : Fn) (first cap : Array Value) (w : World), (Instr.makeFunc fn first cap).run Try.prog w = .ok (.func fn first cap) w := fun _ _ _ _ => rfl
      have hb7 : Below wr.heap.size wr (wr.alloc (.cells (rulesV p) 75)) := (Below.refl _ _).alloc (Nat.le_refl _) _
      have hx7 := heap_alloc_new wr (.cells (rulesV p) 75)
      obtain ⟨w7, hw7⟩ : ∃ w7, w7 = wr.alloc (.cells (rulesV p) 75) := ⟨_, rfl⟩
      rw [← hw7] at hb7 hx7
      obtain ⟨gq, hgq⟩ : ∃ gq, gq = wr.heap.size := ⟨_, rfl⟩
      rw [← hgq] at hx7
      have hgl : gq < w7.heap.size := by rw [hw7, hgq]; simp
      have HGQ := Lib.hid hgq
      have HW7 := Lib.hid hw7
      have HX7 := Lib.hid hx7
      have HV7 := Lib.hid (HVF.out.below hb7)
      have HB7 := Lib.hid (below_below HB.out HB.out.size hb7)
      have HZ7 := Lib.hid ((hb7.block bz (by have := (Array.getElem?_eq_some_iff.1 HZR.out).1; exact this)).trans HZR.out)
      have HGL := Lib.hid hgl
      have HGP := Lib.hid (show ¬ gq = p by have := HVF.out.lt; omega)
      have HBP := Lib.hid (show ¬ bz = p by have := HP.out; have := HBZ.out; omega)
      clear hb7 hx7 hw7 hgq hgl
      go_upto_region 8 with fail
      rw [show wr.alloc (.cells #[.func (.func 28) #[.pointer (some ⟨p, 0, none⟩)] #[], .func (.func 29) #[.pointer (some ⟨p, 0, none⟩)] #[], .func (.func 30) #[.pointer (some ⟨p, 0, none⟩)] #[], .func (.func 31) #[.pointer (some ⟨p, 0, none⟩)] #[]] 75) = w7 from HW7.out.symm, ← HGQ.out]
      have HRU := Lib.hid (show ∀ W, Upd (fun k => k = p) w7 W → W.heap[gq]? = some (.cells (rulesV p) 75 (0, 0)) from fun W hW => (hW.block gq HGL.out HGP.out).trans HX7.out)
      clear hmf
      have k0 := HV7.out.c0
      go_wp2_with fail
      clear k0
      go_loopg [48] cs.length (fun k s48 wx => ∃ i : Nat, i ≤ cs.length ∧ k = cs.length - i ∧ s48 = .int .i64 (i : Int) ∧ VF wx p Av cv cs ((List.range i).foldl (clB cs) (0, 0, 0)) ∧ Upd (fun k => k = p) w7 wx)
      case atStart => exact ⟨0, Nat.zero_le _, by omega, rfl, HV7.out, Upd.refl _ _⟩
      case round =>
        obtain ⟨i, hi, hk, rfl, hvf, hu⟩ := hrel
        have HK := Lib.hid hk
        have HVX := Lib.hid hvf
        have HUX := Lib.hid hu
        clear hk hvf hu
        by_cases hlt : i < cs.length
        · obtain ⟨cc, hcc⟩ : ∃ cc, cs[i]? = some cc := ⟨_, List.getElem?_eq_getElem hlt⟩
          obtain ⟨bv, ov, rfl, hp⟩ := HVX.out.part hcc
          obtain ⟨q0, q1, q2, q3, q4, q5⟩ := hp wr (Below.refl _ _)
          have HCC := Lib.hid hcc
          have i0 : (0 : Int) ≤ (i : Int) := by omega
          have i1 : (i : Int) < (cs.length : Int) := by omega
          have hln1 : (cs.length : Int) ≤ 1000 := by have := HCL.out; omega
          have hb8 : Below wr.heap.size wr (wr.alloc (.cells cc.cells.toArray 73)) := (Below.refl _ _).alloc (Nat.le_refl _) _
          have hx8 := heap_alloc_new wr (.cells cc.cells.toArray 73)
          obtain ⟨w8, hw8⟩ : ∃ w8, w8 = wr.alloc (.cells cc.cells.toArray 73) := ⟨_, rfl⟩
          rw [← hw8] at hb8 hx8
          obtain ⟨g9, hg9⟩ : ∃ g9, g9 = wr.heap.size := ⟨_, rfl⟩
          rw [← hg9] at hx8
          have hg9p : ¬ g9 = p := by have := HVX.out.lt; omega
          have hg9l : g9 < w8.heap.size := by rw [hw8, hg9]; simp
          obtain ⟨B, hB⟩ : ∃ B, B = (List.range i).foldl (clB cs) (0, 0, 0) := ⟨_, rfl⟩
          rw [← hB] at HVX
          have hBs : (List.range (i + 1)).foldl (clB cs) (0, 0, 0) = clB cs B i := by rw [hB, foldl_range_snoc]
          have HV8 := Lib.hid (HVX.out.below hb8)
          have HW8 := Lib.hid hw8
          have HG9 := Lib.hid hg9
          have HLT := Lib.hid hlt
          have HUW := Lib.hid (HUX.out.below hb8)
          have HCB := Lib.hid (show clB cs B i = if cc.lt = false then bestOf B (1, (i : Int), cc.en) else if cc.whole = false then bestOf B (2, (i : Int), cc.en) else (List.range cc.recs.length).foldl (recB cs i cc) (prefixesB cs cc i B) by unfold clB; rw [hcc])
          have HD := Lib.hid (show ∀ W, Upd (fun k => k = p) w8 W → W.cell? ⟨g9, 2, none⟩ = some (.bool cc.lt) ∧ W.cell? ⟨g9, 3, none⟩ = some (.slice cc.rA cc.recs.length cc.rc) ∧ W.cell? ⟨g9, 4, none⟩ = some (.bool cc.whole) ∧ W.cell? ⟨g9, 5, none⟩ = some (.int .i64 cc.en) from fun W hW => by
            have h := (hW.block g9 hg9l hg9p).trans hx8
            exact ⟨(cell_of_row W g9 2 _ _ _ h).trans rfl, (cell_of_row W g9 3 _ _ _ h).trans rfl, (cell_of_row W g9 4 _ _ _ h).trans rfl, (cell_of_row W g9 5 _ _ _ h).trans rfl⟩)
          have HRR := Lib.hid (show ∀ W, VF W p (some ⟨bv, ov, none⟩) cv cs (clB cs B i) → Upd (fun k => k = p) w8 W → ∃ i', i' ≤ cs.length ∧ cs.length - (i + 1) = cs.length - i' ∧ (Value.int .i64 ((i + 1 : Nat) : Int)) = .int .i64 (i' : Int) ∧ VF W p (some ⟨bv, ov, none⟩) cv cs ((List.range i').foldl (clB cs) (0, 0, 0)) ∧ Upd (fun k => k = p) w7 W from fun W h1 h2 => ⟨i + 1, HLT.out, rfl, rfl, by rw [hBs]; exact h1, HUW.out.trans h2 (fun _ _ h => h)⟩)
          obtain ⟨D2, D3, D4, D5⟩ := HD.out w8 (Upd.refl _ _)
          clear hcc hp hb8 hx8 hw8 hg9 hg9p hg9l hB hBs hi hlt HVX HUX
          go_upto_region 22 with fail
          rw [show wr.alloc (.cells #[.int .i64 cc.group, .slice cc.lA cc.M.length cc.lc, .bool cc.lt, .slice cc.rA cc.recs.length cc.rc, .bool cc.whole, .int .i64 cc.en] 73) = w8 from HW8.out.symm, ← HG9.out]
          clear q0 q1 q2 q3 q4 q5
          by_cases hlt1 : cc.lt = false
          · have HCB1 := Lib.hid (HCB.out.trans (if_pos hlt1))
            rw [hlt1] at D2
            clear hlt1
            go_wp2_with fail
            refine (found_any p _ B 1 (i : Int) cc.en w8 HV8.out.at_).mono ?_
            rintro e w9 ⟨rfl, hv9, hu9⟩
            have HV9 := Lib.hid (HV8.out.turn hu9 hv9)
            have HU9 := Lib.hid hu9
            clear hv9 hu9 D2 D3 D4 D5
            go_wp2_with fail
            go_roundg (cs.length - (i + 1))
            case measure => have := HK.out; have := HLT.out; omega
            case rel =>
              obtain ⟨i', h1, h2, h3, h4, h5⟩ := HRR.out _ (by rw [HCB1.out]; exact HV9.out) HU9.out
              exact ⟨i', h1, h2, Eq.trans (by go_num) h3, h4, h5⟩
          by_cases hwh : cc.whole = false
          · have HCB1 := Lib.hid (HCB.out.trans ((if_neg hlt1).trans (if_pos hwh)))
            have hlt2 : cc.lt = true := by simpa using hlt1
            rw [hlt2] at D2
            rw [hwh] at D4
            clear hlt1 hwh hlt2
            go_wp2_with fail
            refine (found_any p _ B 2 (i : Int) cc.en w8 HV8.out.at_).mono ?_
            rintro e w9 ⟨rfl, hv9, hu9⟩
            have HV9 := Lib.hid (HV8.out.turn hu9 hv9)
            have HU9 := Lib.hid hu9
            clear hv9 hu9 D2 D3 D4 D5
            go_wp2_with fail
            go_roundg (cs.length - (i + 1))
            case measure => have := HK.out; have := HLT.out; omega
            case rel =>
              obtain ⟨i', h1, h2, h3, h4, h5⟩ := HRR.out _ (by rw [HCB1.out]; exact HV9.out) HU9.out
              exact ⟨i', h1, h2, Eq.trans (by go_num) h3, h4, h5⟩
          have HCB1 := Lib.hid (HCB.out.trans ((if_neg hlt1).trans (if_neg hwh)))
          have hlt2 : cc.lt = true := by simpa using hlt1
          have hwh2 : cc.whole = true := by simpa using hwh
          rw [hlt2] at D2
          rw [hwh2] at D4
          clear hlt1 hwh hlt2 hwh2
          go_wp2_with fail
          refine (prefixes_any p _ cv cs B i cc w8 HV8.out HCC.out HCV.out).mono ?_
          obtain ⟨B0, hB0⟩ : ∃ B0, prefixesB cs cc i B = B0 := ⟨_, rfl⟩
          rw [hB0] at HCB1 ⊢
          rintro e w9 ⟨rfl, hv9, hu9⟩
          have HV9 := Lib.hid hv9
          have HU9 := Lib.hid hu9
          clear D2 D3 D4 D5 hB0
          obtain ⟨D2, D3, D4, D5⟩ := HD.out w9 hu9
          clear hv9 hu9 D2 D4 D5
          have hrl : cc.recs.length ≤ 5000 := (HV9.out.cf cc (List.mem_of_getElem? HCC.out)).lR
          go_wp2_with fail
          clear D3
          go_loopg [59] cc.recs.length (fun k s59 wx => ∃ at' : Nat, at' ≤ cc.recs.length ∧ k = cc.recs.length - at' ∧ s59 = .int .i64 (at' : Int) ∧ VF wx p (some ⟨bv, ov, none⟩) cv cs ((List.range at').foldl (recB cs i cc) B0) ∧ Upd (fun k => k = p) w8 wx)
          case atStart => exact ⟨0, Nat.zero_le _, by omega, rfl, HV9.out, HU9.out⟩
          case round =>
            obtain ⟨at', hi3, hk3, rfl, hvf3, hu3⟩ := hrel
            have HK3 := Lib.hid hk3
            have HV3 := Lib.hid hvf3
            have HU3 := Lib.hid hu3
            clear hk3 hvf3 hu3
            by_cases hlt3 : at' < cc.recs.length
            · obtain ⟨m, hm⟩ : ∃ m, cc.recs[at']? = some m := ⟨_, List.getElem?_eq_getElem hlt3⟩
              have hcf := HV3.out.cf cc (List.mem_of_getElem? HCC.out)
              obtain ⟨br, orr, hbr, hcell⟩ := RC.part hcf.rr.r (by rw [rmc_length]; omega)
              have hg := rmc_get cc.recs at' hlt3
              have hme : cc.recs[at'] = m := by
                have := List.getElem?_eq_getElem hlt3
                rw [hm] at this
                exact (Option.some.inj this).symm
              rw [hme] at hg
              have z0 := hcell _ _ hg.1
              have z1 := hcell _ _ hg.2.1
              have z2 := hcell _ _ hg.2.2.1
              have z3 := hcell _ _ hg.2.2.2
              rw [← Nat.add_assoc] at z1 z2 z3
              have HMM := Lib.hid (List.mem_of_getElem? hm)
              have HRB := Lib.hid (show ∀ b, recB cs i cc b at' = (List.range 4).foldl (ruleB cs i cc at' m) b from fun b => by unfold recB; rw [hm])
              have a0 : (0 : Int) ≤ (at' : Int) := by omega
              have a1 : (at' : Int) < (cc.recs.length : Int) := by omega
              have hb10 : Below wr.heap.size wr (wr.alloc (.cells m.cells.toArray 24)) := (Below.refl _ _).alloc (Nat.le_refl _) _
              have hx10 := box_new wr m
              obtain ⟨w10, hw10⟩ : ∃ w10, w10 = wr.alloc (.cells m.cells.toArray 24) := ⟨_, rfl⟩
              rw [← hw10] at hb10 hx10
              obtain ⟨g11, hg11⟩ : ∃ g11, g11 = wr.heap.size := ⟨_, rfl⟩
              rw [← hg11] at hx10
              obtain ⟨B3, hB3⟩ : ∃ B3, B3 = (List.range at').foldl (recB cs i cc) B0 := ⟨_, rfl⟩
              rw [← hB3] at HV3
              have HB3S := Lib.hid (show (List.range (at' + 1)).foldl (recB cs i cc) B0 = recB cs i cc B3 at' by rw [hB3, foldl_range_snoc])
              have hg11p : ¬ g11 = p := by have := HV3.out.lt; omega
              have hg11l : g11 < w10.heap.size := by rw [hw10, hg11]; simp
              have HBX := Lib.hid (show ∀ W, Upd (fun k => k = p) w10 W → W.cell? ⟨g11, 0, none⟩ = some (.int .i64 m.kind) ∧ W.cell? ⟨g11, 1, none⟩ = some (.string (strB m.tx)) ∧ W.cell? ⟨g11, 2, none⟩ = some (.slice m.A m.groups.length m.c) ∧ W.cell? ⟨g11, 3, none⟩ = some (.string (strB m.body)) from fun W hW => by
                have h : BoxAt W g11 m := (hW.block g11 hg11l hg11p).trans hx10
                exact ⟨h.c0, h.c1, h.c2, (cell_of_row W g11 3 _ _ _ h).trans rfl⟩)
              have HV10 := Lib.hid (HV3.out.below hb10)
              have HW10 := Lib.hid hw10
              have HG11 := Lib.hid hg11
              have HU10 := Lib.hid (HU3.out.below hb10)
              have HLT3 := Lib.hid hlt3
              have hrA : cc.rA = some ⟨br, orr, none⟩ := hbr
              have hu710 := Lib.hid (HUW.out.trans HU10.out (fun _ _ h => h))
              clear hm hcf hbr hcell hg hme hb10 hx10 hw10 hg11 hB3 hg11p hg11l hi3 hlt3
              go_upto_region 15 with (fail)
              rw [show wr.alloc (.cells #[.int .i64 m.kind, .string (strB m.tx), .slice m.A m.groups.length m.c, .string (strB m.body)] 24) = w10 from HW10.out.symm, ← HG11.out]
              clear z0 z1 z2 z3
              have HRA := Lib.hid hrA
              clear hrA
              go_wp2_with fail
              go_loopg [66] 4 (fun k s66 wx => ∃ k4 : Nat, k4 ≤ 4 ∧ k = 4 - k4 ∧ s66 = .int .i64 (k4 : Int) ∧ VF wx p (some ⟨bv, ov, none⟩) cv cs ((List.range k4).foldl (ruleB cs i cc at' m) B3) ∧ Upd (fun k => k = p) w10 wx)
              case atStart => exact ⟨0, Nat.zero_le _, by omega, rfl, HV10.out, Upd.refl _ _⟩
              case round =>
                obtain ⟨k4, hi4, hk4, rfl, hvf4, hu4⟩ := hrel
                obtain ⟨B4, hB4⟩ : ∃ B4, (List.range k4).foldl (ruleB cs i cc at' m) B3 = B4 := ⟨_, rfl⟩
                rw [hB4] at hvf4
                have HK4 := Lib.hid hk4
                have HB4 := Lib.hid hB4
                have HV4 := Lib.hid hvf4
                have HU4 := Lib.hid hu4
                have HQ4 := Lib.hid (HRU.out wr (hu710.out.trans hu4 (fun _ _ h => h)))
                obtain ⟨z0, z1, z2, z3⟩ := HBX.out wr hu4
                clear hk4 hvf4 hu4 hB4
                by_cases hlt4 : k4 < 4
                · obtain rfl | rfl | rfl | rfl : k4 = 0 ∨ k4 = 1 ∨ k4 = 2 ∨ k4 = 3 := by omega
                  · have kq : wr.cell? ⟨gq, 0, none⟩ = some (.func (.func 28) #[.pointer (some ⟨p, 0, none⟩)] #[]) := (cell_of_row wr gq 0 _ _ _ HQ4.out).trans rfl
                    go_wp2_with fail
                    refine (twice_any p _ cv cs B4 i at' cc m wr HV4.out HCC.out (Nat.le_of_lt HLT3.out)).mono ?_
                    obtain ⟨q, hq⟩ : ∃ q, twiceS (cc.recs.take at') m = q := ⟨_, rfl⟩
                    rw [hq]
                    rintro e w12 ⟨rfl, hb12⟩
                    have HQQ := Lib.hid (show ruleB cs i cc at' m B4 0 = if q = true then bestOf B4 (4, (i : Int), (at' : Int)) else B4 by rw [← hq]; rfl)
                    have HV12 := Lib.hid (HV4.out.below hb12)
                    have HU12 := Lib.hid (HU4.out.below hb12)
                    clear hb12 hq kq z0 z1 z2 z3
                    cases q with
                    | true =>
                      go_wp2_with fail
                      refine (found_any p _ B4 4 (i : Int) (at' : Int) w12 HV12.out.at_).mono ?_
                      rintro e w13 ⟨rfl, hv13, hu13⟩
                      have HV13 := Lib.hid (HV12.out.turn hu13 hv13)
                      have HU13 := Lib.hid (HU12.out.trans hu13 (fun _ _ h => h))
                      clear hv13 hu13
                      go_wp2_with fail
                      go_roundg (4 - (0 + 1))
                      case measure => have := HK4.out; omega
                      case rel => exact ⟨1, by omega, rfl, rfl, by rw [foldl_range_snoc, HB4.out, HQQ.out]; exact HV13.out, HU13.out⟩
                    | false =>
                      go_wp2_with fail
                      go_roundg (4 - (0 + 1))
                      case measure => have := HK4.out; omega
                      case rel => exact ⟨1, by omega, rfl, rfl, by rw [foldl_range_snoc, HB4.out, HQQ.out, if_neg (by decide)]; exact HV12.out, HU12.out⟩
                  · have kq : wr.cell? ⟨gq, 1, none⟩ = some (.func (.func 29) #[.pointer (some ⟨p, 0, none⟩)] #[]) := (cell_of_row wr gq 1 _ _ _ HQ4.out).trans rfl
                    go_wp2_with fail
                    refine (both_any p _ cv cs B4 i at' cc m wr HV4.out HCC.out).mono ?_
                    obtain ⟨q, hq⟩ : ∃ q, bothS cs (i : Int) m = q := ⟨_, rfl⟩
                    rw [hq]
                    rintro e w12 ⟨rfl, hb12⟩
                    have HQQ := Lib.hid (show ruleB cs i cc at' m B4 1 = if q = true then bestOf B4 (5, (i : Int), (at' : Int)) else B4 by rw [← hq]; rfl)
                    have HV12 := Lib.hid (HV4.out.below hb12)
                    have HU12 := Lib.hid (HU4.out.below hb12)
                    clear hb12 hq kq z0 z1 z2 z3
                    cases q with
                    | true =>
                      go_wp2_with fail
                      refine (found_any p _ B4 5 (i : Int) (at' : Int) w12 HV12.out.at_).mono ?_
                      rintro e w13 ⟨rfl, hv13, hu13⟩
                      have HV13 := Lib.hid (HV12.out.turn hu13 hv13)
                      have HU13 := Lib.hid (HU12.out.trans hu13 (fun _ _ h => h))
                      clear hv13 hu13
                      go_wp2_with fail
                      go_roundg (4 - (1 + 1))
                      case measure => have := HK4.out; omega
                      case rel => exact ⟨2, by omega, rfl, rfl, by rw [foldl_range_snoc, HB4.out, HQQ.out]; exact HV13.out, HU13.out⟩
                    | false =>
                      go_wp2_with fail
                      go_roundg (4 - (1 + 1))
                      case measure => have := HK4.out; omega
                      case rel => exact ⟨2, by omega, rfl, rfl, by rw [foldl_range_snoc, HB4.out, HQQ.out, if_neg (by decide)]; exact HV12.out, HU12.out⟩
                  · have kq : wr.cell? ⟨gq, 2, none⟩ = some (.func (.func 30) #[.pointer (some ⟨p, 0, none⟩)] #[]) := (cell_of_row wr gq 2 _ _ _ HQ4.out).trans rfl
                    go_wp2_with fail
                    refine (bare_any p _ cv cs B4 i at' cc m wr HV4.out HCC.out (Nat.le_of_lt HLT3.out)).mono ?_
                    obtain ⟨q, hq⟩ : ∃ q, bareS (cc.recs.take at') m = q := ⟨_, rfl⟩
                    rw [hq]
                    rintro e w12 ⟨rfl, hb12⟩
                    have HQQ := Lib.hid (show ruleB cs i cc at' m B4 2 = if q = true then bestOf B4 (6, (i : Int), (at' : Int)) else B4 by rw [← hq]; rfl)
                    have HV12 := Lib.hid (HV4.out.below hb12)
                    have HU12 := Lib.hid (HU4.out.below hb12)
                    clear hb12 hq kq z0 z1 z2 z3
                    cases q with
                    | true =>
                      go_wp2_with fail
                      refine (found_any p _ B4 6 (i : Int) (at' : Int) w12 HV12.out.at_).mono ?_
                      rintro e w13 ⟨rfl, hv13, hu13⟩
                      have HV13 := Lib.hid (HV12.out.turn hu13 hv13)
                      have HU13 := Lib.hid (HU12.out.trans hu13 (fun _ _ h => h))
                      clear hv13 hu13
                      go_wp2_with fail
                      go_roundg (4 - (2 + 1))
                      case measure => have := HK4.out; omega
                      case rel => exact ⟨3, by omega, rfl, rfl, by rw [foldl_range_snoc, HB4.out, HQQ.out]; exact HV13.out, HU13.out⟩
                    | false =>
                      go_wp2_with fail
                      go_roundg (4 - (2 + 1))
                      case measure => have := HK4.out; omega
                      case rel => exact ⟨3, by omega, rfl, rfl, by rw [foldl_range_snoc, HB4.out, HQQ.out, if_neg (by decide)]; exact HV12.out, HU12.out⟩
                  · have kq : wr.cell? ⟨gq, 3, none⟩ = some (.func (.func 31) #[.pointer (some ⟨p, 0, none⟩)] #[]) := (cell_of_row wr gq 3 _ _ _ HQ4.out).trans rfl
                    go_wp2_with fail
                    refine (strange_any p _ cv cs B4 i (at' : Int) cc m wr HV4.out HCC.out ((HV4.out.cf cc (List.mem_of_getElem? HCC.out)).rg m HMM.out).1.r ((HV4.out.cf cc (List.mem_of_getElem? HCC.out)).rg m HMM.out).2).mono ?_
                    obtain ⟨q, hq⟩ : ∃ q, strangeS cs (i : Int) cc.group m = q := ⟨_, rfl⟩
                    rw [hq]
                    rintro e w12 ⟨rfl, hb12⟩
                    have HQQ := Lib.hid (show ruleB cs i cc at' m B4 3 = if q = true then bestOf B4 (7, (i : Int), (at' : Int)) else B4 by rw [← hq]; rfl)
                    have HV12 := Lib.hid (HV4.out.below hb12)
                    have HU12 := Lib.hid (HU4.out.below hb12)
                    clear hb12 hq kq z0 z1 z2 z3
                    cases q with
                    | true =>
                      go_wp2_with fail
                      refine (found_any p _ B4 7 (i : Int) (at' : Int) w12 HV12.out.at_).mono ?_
                      rintro e w13 ⟨rfl, hv13, hu13⟩
                      have HV13 := Lib.hid (HV12.out.turn hu13 hv13)
                      have HU13 := Lib.hid (HU12.out.trans hu13 (fun _ _ h => h))
                      clear hv13 hu13
                      go_wp2_with fail
                      go_roundg (4 - (3 + 1))
                      case measure => have := HK4.out; omega
                      case rel => exact ⟨4, by omega, rfl, rfl, by rw [foldl_range_snoc, HB4.out, HQQ.out]; exact HV13.out, HU13.out⟩
                    | false =>
                      go_wp2_with fail
                      go_roundg (4 - (3 + 1))
                      case measure => have := HK4.out; omega
                      case rel => exact ⟨4, by omega, rfl, rfl, by rw [foldl_range_snoc, HB4.out, HQQ.out, if_neg (by decide)]; exact HV12.out, HU12.out⟩
                · obtain rfl : k4 = 4 := by omega
                  clear z0 z1 z2 z3 hlt4 hi4
                  have HB3E := Lib.hid (HB3S.out.trans ((HRB.out B3).trans HB4.out))
                  go_wp2_with fail
                  go_roundg (cc.recs.length - (at' + 1))
                  case measure => have := HK3.out; have := HLT3.out; omega
                  case rel => exact ⟨at' + 1, HLT3.out, rfl, by go_num, by rw [HB3E.out]; exact HV4.out, HU10.out.trans HU4.out (fun _ _ h => h)⟩
            · obtain rfl : at' = cc.recs.length := by omega
              clear hlt3 hi3
              have hnl3 : ¬ ((cc.recs.length : Int) < (cc.recs.length : Int)) := by omega
              go_wp2_with fail
              go_roundg (cs.length - (i + 1))
              case measure => have := HK.out; have := HLT.out; omega
              case rel =>
                obtain ⟨i', h1, h2, h3, h4, h5⟩ := HRR.out _ (by rw [HCB1.out]; exact HV3.out) HU3.out
                exact ⟨i', h1, h2, Eq.trans (by go_num) h3, h4, h5⟩
        · obtain rfl : i = cs.length := by omega
          have hvs : (List.range cs.length).foldl (clB cs) (0, 0, 0) = verS cs := rfl
          rw [hvs] at HVX
          obtain ⟨b0, b1, b2, hb⟩ : ∃ b0 b1 b2, verS cs = (b0, b1, b2) := ⟨_, _, _, rfl⟩
          have HBE := Lib.hid hb
          rw [hb] at HVX
          obtain ⟨w9, hw9⟩ : ∃ w9, w9 = wr := ⟨_, rfl⟩
          rw [← hw9] at HVX HUX ⊢
          have HZ9 := Lib.hid (show w9.heap[bz]? = some (.cells #[.int .i64 0, .int .i64 0, .int .i64 0] 33 (0, 0)) from (HUX.out.block bz (Array.getElem?_eq_some_iff.1 HZ7.out).1 HBP.out).trans HZ7.out)
          have HPX := Lib.hid (show ∀ W, Upd (fun k => k = bz) w9 W → VAt W p (.slice Av cs.length cv) (b0, b1, b2) from fun W hW => (hW.block p HVX.out.lt (fun e => HBP.out e.symm)).trans HVX.out.at_)
          have HB9 := Lib.hid (below_upd HB7.out HB7.out.size HUX.out (fun k hk => by have := HP.out; omega))
          have hnl2 : ¬ ((cs.length : Int) < (cs.length : Int)) := by omega
          clear hw9 hlt hi hb hvs HVX HUX HK
          go_upto_region 27 with fail
          refine region_byW (fun W => Upd (fun k => k = bz) w9 W ∧ ∃ v0 v1 v2, W.heap[bz]? = some (.cells #[v0, v1, v2] 33 (0, 0))) [(fun v _ => v = .pointer (some ⟨p, 0, none⟩)), (fun v _ => v = .pointer (some ⟨p, 0, none⟩)), (fun v _ => v = .pointer (some ⟨p, 1, none⟩)), (fun v _ => v = .agg #[.int .i64 b0, .int .i64 b1, .int .i64 b2]), (fun v _ => v = .pointer (some ⟨p, 0, none⟩)), (fun v _ => v = .pointer (some ⟨p, 0, none⟩)), (fun v _ => v = .pointer (some ⟨p, 1, none⟩)), (fun v _ => v = .pointer (some ⟨p, 1, none⟩)), (fun v _ => v = .int .i64 b0), (fun v _ => v = .bool (b0 == 0)), fun _ W => W.heap[bz]? = some (.cells #[.int .i64 b0, .int .i64 b1, .int .i64 b2] 33 (0, 0)), (fun v _ => v = .bool (b0 == 0))] (by kernel_rfl) (by kernel_rfl) (by kernel_rfl) rfl (⟨(Upd.refl _ _).drew, _, _, _, HZ9.out⟩) ?ok27 ?fin27
          case ok27 =>
            refine ⟨?_, ?_, ?_, ?_, ?_, ?_, ?_, ?_, ?_, ?_, ?_, ?_, trivial⟩
            · intro a' w' K hI hd hq hK
              have e4 : a'.eval (.tmp 4) = .pointer (some ⟨p, 0, none⟩) := (hq 4 (by kernel_rfl)).trans rfl
              clear hd hq
              refine op_value (wanted_free _ _ (by rfl)) (v := .pointer (some ⟨p, 0, none⟩)) (w'' := w') ?_ (hK _ _ hI (fun _ _ h => h) rfl)
              clear hK
              simp only [execOp, e4]
              have f4 : a'.tmps[4]?.getD undef = .pointer (some ⟨p, 0, none⟩) := (Array.getD_eq_getD_getElem? ..).symm.trans e4
              clear e4
              first | rfl | (go_simp <;> exact IntWalk.i64_in _ (by omega))
            · intro a' w' K hI hd hq hK
              have e103 : a'.eval (.tmp 103) = .pointer (some ⟨p, 0, none⟩) := (hd 0 103 (by kernel_rfl))
              clear hd hq
              refine op_value (wanted_free _ _ (by rfl)) (v := .pointer (some ⟨p, 0, none⟩)) (w'' := w') ?_ (hK _ _ hI (fun _ _ h => h) rfl)
              clear hK
              simp only [execOp, e103]
              have f103 : a'.tmps[103]?.getD undef = .pointer (some ⟨p, 0, none⟩) := (Array.getD_eq_getD_getElem? ..).symm.trans e103
              clear e103
              first | rfl | (go_simp <;> exact IntWalk.i64_in _ (by omega))
            · intro a' w' K hI hd hq hK
              have e104 : a'.eval (.tmp 104) = .pointer (some ⟨p, 0, none⟩) := (hd 1 104 (by kernel_rfl))
              clear hd hq
              refine op_value (wanted_free _ _ (by rfl)) (v := .pointer (some ⟨p, 1, none⟩)) (w'' := w') ?_ (hK _ _ hI (fun _ _ h => h) rfl)
              clear hK
              simp only [execOp, e104]
              have f104 : a'.tmps[104]?.getD undef = .pointer (some ⟨p, 0, none⟩) := (Array.getD_eq_getD_getElem? ..).symm.trans e104
              clear e104
              first | rfl | (go_simp <;> exact IntWalk.i64_in _ (by omega))
            · intro a' w' K hI hd hq hK
              have e105 : a'.eval (.tmp 105) = .pointer (some ⟨p, 1, none⟩) := (hd 2 105 (by kernel_rfl))
              clear hd hq
              have hva := HPX.out w' hI.1
              have c1 : w'.cell? ⟨p, 1, none⟩ = some (.int .i64 b0) := (cell_of_row w' p 1 _ _ _ hva).trans rfl
              have c2 : w'.cell? ⟨p, 2, none⟩ = some (.int .i64 b1) := (cell_of_row w' p 2 _ _ _ hva).trans rfl
              have c3 : w'.cell? ⟨p, 3, none⟩ = some (.int .i64 b2) := (cell_of_row w' p 3 _ _ _ hva).trans rfl
              refine op_value (wanted_free _ _ (by rfl)) (v := .agg #[.int .i64 b0, .int .i64 b1, .int .i64 b2]) (w'' := w') ?_ (hK _ _ hI (fun _ _ h => h) rfl)
              clear hK
              simp only [execOp, e105]
              have f105 : a'.tmps[105]?.getD undef = .pointer (some ⟨p, 1, none⟩) := (Array.getD_eq_getD_getElem? ..).symm.trans e105
              clear e105
              first | rfl | (go_simp <;> exact IntWalk.i64_in _ (by omega))
            · intro a' w' K hI hd hq hK
              have e4 : a'.eval (.tmp 4) = .pointer (some ⟨p, 0, none⟩) := (hq 4 (by kernel_rfl)).trans rfl
              clear hd hq
              refine op_value (wanted_free _ _ (by rfl)) (v := .pointer (some ⟨p, 0, none⟩)) (w'' := w') ?_ (hK _ _ hI (fun _ _ h => h) rfl)
              clear hK
              simp only [execOp, e4]
              have f4 : a'.tmps[4]?.getD undef = .pointer (some ⟨p, 0, none⟩) := (Array.getD_eq_getD_getElem? ..).symm.trans e4
              clear e4
              first | rfl | (go_simp <;> exact IntWalk.i64_in _ (by omega))
            · intro a' w' K hI hd hq hK
              have e107 : a'.eval (.tmp 107) = .pointer (some ⟨p, 0, none⟩) := (hd 4 107 (by kernel_rfl))
              clear hd hq
              refine op_value (wanted_free _ _ (by rfl)) (v := .pointer (some ⟨p, 0, none⟩)) (w'' := w') ?_ (hK _ _ hI (fun _ _ h => h) rfl)
              clear hK
              simp only [execOp, e107]
              have f107 : a'.tmps[107]?.getD undef = .pointer (some ⟨p, 0, none⟩) := (Array.getD_eq_getD_getElem? ..).symm.trans e107
              clear e107
              first | rfl | (go_simp <;> exact IntWalk.i64_in _ (by omega))
            · intro a' w' K hI hd hq hK
              have e108 : a'.eval (.tmp 108) = .pointer (some ⟨p, 0, none⟩) := (hd 5 108 (by kernel_rfl))
              clear hd hq
              refine op_value (wanted_free _ _ (by rfl)) (v := .pointer (some ⟨p, 1, none⟩)) (w'' := w') ?_ (hK _ _ hI (fun _ _ h => h) rfl)
              clear hK
              simp only [execOp, e108]
              have f108 : a'.tmps[108]?.getD undef = .pointer (some ⟨p, 0, none⟩) := (Array.getD_eq_getD_getElem? ..).symm.trans e108
              clear e108
              first | rfl | (go_simp <;> exact IntWalk.i64_in _ (by omega))
            · intro a' w' K hI hd hq hK
              have e109 : a'.eval (.tmp 109) = .pointer (some ⟨p, 1, none⟩) := (hd 6 109 (by kernel_rfl))
              clear hd hq
              refine op_value (wanted_free _ _ (by rfl)) (v := .pointer (some ⟨p, 1, none⟩)) (w'' := w') ?_ (hK _ _ hI (fun _ _ h => h) rfl)
              clear hK
              simp only [execOp, e109]
              have f109 : a'.tmps[109]?.getD undef = .pointer (some ⟨p, 1, none⟩) := (Array.getD_eq_getD_getElem? ..).symm.trans e109
              clear e109
              first | rfl | (go_simp <;> exact IntWalk.i64_in _ (by omega))
            · intro a' w' K hI hd hq hK
              have e110 : a'.eval (.tmp 110) = .pointer (some ⟨p, 1, none⟩) := (hd 7 110 (by kernel_rfl))
              clear hd hq
              have hva := HPX.out w' hI.1
              have c1 : w'.cell? ⟨p, 1, none⟩ = some (.int .i64 b0) := (cell_of_row w' p 1 _ _ _ hva).trans rfl
              refine op_value (wanted_free _ _ (by rfl)) (v := .int .i64 b0) (w'' := w') ?_ (hK _ _ hI (fun _ _ h => h) rfl)
              clear hK
              simp only [execOp, e110]
              have f110 : a'.tmps[110]?.getD undef = .pointer (some ⟨p, 1, none⟩) := (Array.getD_eq_getD_getElem? ..).symm.trans e110
              clear e110
              first | rfl | (go_simp <;> exact IntWalk.i64_in _ (by omega))
            · intro a' w' K hI hd hq hK
              have e111 : a'.eval (.tmp 111) = .int .i64 b0 := (hd 8 111 (by kernel_rfl))
              clear hd hq
              refine op_value (wanted_free _ _ (by rfl)) (v := .bool (b0 == 0)) (w'' := w') ?_ (hK _ _ hI (fun _ _ h => h) rfl)
              clear hK
              simp only [execOp, e111]
              have f111 : a'.tmps[111]?.getD undef = .int .i64 b0 := (Array.getD_eq_getD_getElem? ..).symm.trans e111
              clear e111
              first | rfl | (go_simp <;> exact IntWalk.i64_in _ (by omega))
            · intro a' w' K hI hd hq hK
              have e2 : a'.eval (.tmp 2) = .pointer (some ⟨bz, 0, none⟩) := (hq 2 (by kernel_rfl)).trans rfl
              have e106 : a'.eval (.tmp 106) = .agg #[.int .i64 b0, .int .i64 b1, .int .i64 b2] := (hd 3 106 (by kernel_rfl))
              clear hd hq
              obtain ⟨v0, v1, v2, hz⟩ := hI.2
              have f0 := frozen_of_row w' bz 0 _ _ hz
              have f1 := frozen_of_row w' bz 1 _ _ hz
              have f2 := frozen_of_row w' bz 2 _ _ hz
              have c0 : w'.cell? ⟨bz, 0, none⟩ = some v0 := (cell_of_row w' bz 0 _ _ _ hz).trans rfl
              have c1 : w'.cell? ⟨bz, 1, none⟩ = some v1 := (cell_of_row w' bz 1 _ _ _ hz).trans rfl
              have c2 : w'.cell? ⟨bz, 2, none⟩ = some v2 := (cell_of_row w' bz 2 _ _ _ hz).trans rfl
              have hz2 : (((w'.setCell ⟨bz, 0, none⟩ (.int .i64 b0)).setCell ⟨bz, 1, none⟩ (.int .i64 b1)).setCell ⟨bz, 2, none⟩ (.int .i64 b2)).heap[bz]? = some (.cells #[.int .i64 b0, .int .i64 b1, .int .i64 b2] 33 (0, 0)) := by
                rw [setCell_at (setCell_at (setCell_at hz _) _) _]
                rfl
              have hu2 : Upd (fun k => k = bz) w' (((w'.setCell ⟨bz, 0, none⟩ (.int .i64 b0)).setCell ⟨bz, 1, none⟩ (.int .i64 b1)).setCell ⟨bz, 2, none⟩ (.int .i64 b2)) := (((Upd.refl (fun k => k = bz) w').setCell (p := ⟨bz, 0, none⟩) (fun _ => rfl) _).setCell (p := ⟨bz, 1, none⟩) (fun _ => rfl) _).setCell (p := ⟨bz, 2, none⟩) (fun _ => rfl) _
              refine op_skip (wanted_free _ _ (by rfl)) rfl (w'' := (((w'.setCell ⟨bz, 0, none⟩ (.int .i64 b0)).setCell ⟨bz, 1, none⟩ (.int .i64 b1)).setCell ⟨bz, 2, none⟩ (.int .i64 b2))) ?_ (hK undef _ ⟨hI.1.trans hu2 (fun _ _ h => h), _, _, _, hz2⟩ (fun j u => by match j with | 0 | 1 | 2 | 3 | 4 | 5 | 6 | 7 | 8 | 9 | 11 => exact fun h => h | 10 => exact fun _ => hz2 | _ + 12 => exact fun _ => trivial) hz2)
              clear hK hI hz hz2 hu2
              simp only [execOp, e2, e106]
              have g2 : a'.tmps[2]?.getD undef = .pointer (some ⟨bz, 0, none⟩) := (Array.getD_eq_getD_getElem? ..).symm.trans e2
              have g106 : a'.tmps[106]?.getD undef = .agg #[.int .i64 b0, .int .i64 b1, .int .i64 b2] := (Array.getD_eq_getD_getElem? ..).symm.trans e106
              clear e2 e106
              go_simp
            · intro a' w' K hI hd hq hK
              have e112 : a'.eval (.tmp 112) = .bool (b0 == 0) := (hd 9 112 (by kernel_rfl))
              clear hd hq
              refine op_value (wanted_free _ _ (by rfl)) (v := .bool (b0 == 0)) (w'' := w') ?_ (hK _ _ hI (fun _ _ h => h) rfl)
              clear hK
              simp only [execOp, e112]
              have f112 : a'.tmps[112]?.getD undef = .bool (b0 == 0) := (Array.getD_eq_getD_getElem? ..).symm.trans e112
              clear e112
              first | rfl | (go_simp <;> exact IntWalk.i64_in _ (by omega))
          case fin27 =>
            rintro w' hI _ rfl _ rfl _ rfl _ rfl _ rfl _ rfl _ rfl _ rfl _ rfl _ rfl _ hfin _ rfl
            simp only [Act.put, List.setIfInBounds_toArray, List.set_cons_zero, List.set_cons_succ, FinGoal]
            obtain ⟨hU, _⟩ := hI
            have HFIN := Lib.hid hfin
            have HU9 := Lib.hid hU
            clear hfin hU
            go_wp2_with fail
            try simp only [Exit.inBlock, Exit.then]
            refine bodyPost_ret (v := .tuple #[.agg #[.int .i64 b0, .int .i64 b1, .int .i64 b2], .bool (b0 == 0)]) ?_ rfl ?_
            · refine Eq.trans (results_row_tmp rfl _ _ bz 33 _ (0, 0) _ rfl HFIN.out Try.underlying33 rfl infoFlt) ?_
              rfl
            · refine ⟨cs, HMQ.out, ?_, below_upd HB9.out HB9.out.size HU9.out (fun k hk => by have := HBZ.out; omega)⟩
              rw [HBE.out]
end Go.Proofs.Ytjakhemolecbnaa
end

/-
  What Verify finds, plain: the faults, and the least of them.
-/
section
set_option linter.unusedVariables false
set_option linter.unusedSimpArgs false
namespace Go.Proofs.Ytjakhemolecbnaa
open Go.RowKit

abbrev Ft := Int × Int × Int
def ofPp (k : Int) (s : List UInt8) (r : Rp) : Bool := decide (r.kind = k ∧ r.tx = s)
def strPp (s : List UInt8) (zs : List Int) (r : Rp) : Bool := decide (r.kind = 3 ∧ r.tx = s ∧ r.groups ≠ zs)
def tstP (cs : List Cp) (n : Int) (P : Rp → Bool) (j : Nat) : Bool := match cs[j]? with | some c => decide ((j : Int) ≠ n) && c.whole && c.recs.any P | none => false
def othersP (cs : List Cp) (n : Int) (P : Rp → Bool) : Bool := (List.range cs.length).any (tstP cs n P)
def twiceP (l : List Rp) (m : Rp) : Bool := decide (m.kind = 3) && (l.any (ofPp 3 m.tx) || l.any (ofPp 4 m.tx)) || decide (m.kind = 4) && l.any (ofPp 3 m.tx)
def bothP (cs : List Cp) (i : Int) (m : Rp) : Bool := decide (m.kind = 3) && othersP cs i (ofPp 4 m.tx) || decide (m.kind = 4) && othersP cs i (ofPp 3 m.tx)
def bareP (l : List Rp) (m : Rp) : Bool := decide (m.kind = 3) && !l.any (ofPp 2 m.tx)
def strangeP (cs : List Cp) (i : Int) (gr : Int) (m : Rp) : Bool := decide (m.kind = 3) && (!decide (gr ∈ m.groups) || othersP cs i (strPp m.tx m.groups))
def brkP (cs : List Cp) (i : Nat) (c : Cp) (at' : Nat) (m : Rp) (k : Nat) : Bool := match k with
  | 0 => twiceP (c.recs.take at') m
  | 1 => bothP cs i m
  | 2 => bareP (c.recs.take at') m
  | _ => strangeP cs i c.group m
def one (c : Bool) (f : Ft) : List Ft := if c = true then [f] else []
def pfxF (cs : List Cp) (c : Cp) (i j : Nat) : List Ft := match cs[j]? with
  | some d => one (d.whole && (decide (d.group = c.group) && !decide (d.M.take (min d.M.length c.M.length) = c.M.take (min d.M.length c.M.length)))) (3, (i : Int), (unlikeS d.M c.M : Int))
  | none => []
def recF (cs : List Cp) (c : Cp) (i at' : Nat) : List Ft := match c.recs[at']? with
  | some m => (List.range 4).flatMap fun k => one (brkP cs i c at' m k) (4 + (k : Int), (i : Int), (at' : Int))
  | none => []
def clF (cs : List Cp) (i : Nat) : List Ft := match cs[i]? with
  | some c => if c.lt = false then [(1, (i : Int), c.en)] else if c.whole = false then [(2, (i : Int), c.en)] else (List.range i).flatMap (pfxF cs c i) ++ (List.range c.recs.length).flatMap (recF cs c i)
  | none => []
def faults (cs : List Cp) : List Ft := (List.range cs.length).flatMap (clF cs)
def verP (cs : List Cp) : Ft := (faults cs).foldl bestOf (0, 0, 0)

theorem fold_one (b : Ft) (c : Bool) (f : Ft) : (one c f).foldl bestOf b = if c = true then bestOf b f else b := by
  unfold one
  split <;> rfl
theorem fold_flat {α : Type} (F : α → List Ft) : ∀ (l : List α) (b : Ft), (l.flatMap F).foldl bestOf b = l.foldl (fun b x => (F x).foldl bestOf b) b
  | [], b => rfl
  | x :: l, b => by rw [List.flatMap_cons, List.foldl_append, List.foldl_cons, fold_flat F l]
theorem foldl_ext {α : Type} (f g : Ft → α → Ft) : ∀ (l : List α) (b : Ft), (∀ b x, x ∈ l → f b x = g b x) → l.foldl f b = l.foldl g b
  | [], _, _ => rfl
  | x :: l, b, h => by rw [List.foldl_cons, List.foldl_cons, h b x (by simp), foldl_ext f g l _ (fun b y hy => h b y (by simp [hy]))]

theorem any_of (k : Int) (s : List UInt8) (l : List Rm) : l.any (ofP k s) = (l.map Rm.p).any (ofPp k s) := by rw [List.any_map]; rfl
theorem tst_p (cs : List Cm) (n : Int) (P : Rp → Bool) (j : Nat) : tst cs n (fun m => P m.p) j = tstP (cs.map Cm.p) n P j := by
  unfold tst tstP
  rw [List.getElem?_map]
  cases cs[j]? with
  | none => rfl
  | some c =>
    show (_ && c.whole && c.recs.any _) = (_ && c.whole && (c.recs.map Rm.p).any P)
    rw [List.any_map]
    rfl
theorem others_p (cs : List Cm) (n : Int) (P : Rp → Bool) : othersS cs n (fun m => P m.p) = othersP (cs.map Cm.p) n P := by
  unfold othersS othersP
  rw [List.length_map]
  congr 1
  funext j
  exact tst_p cs n P j
theorem brk_p (cs : List Cm) (i : Nat) (c : Cm) (at' : Nat) (m : Rm) (k : Nat) : brk cs i c at' m k = brkP (cs.map Cm.p) i c.p at' m.p k := by
  have ht : (c.recs.take at').map Rm.p = (c.p.recs).take at' := List.map_take
  match k with
  | 0 =>
    show twiceS _ _ = twiceP _ _
    unfold twiceS twiceP
    rw [any_of, any_of, ht]
    rfl
  | 1 =>
    show bothS _ _ _ = bothP _ _ _
    unfold bothS bothP
    rw [show othersS cs i (ofP 4 m.tx) = _ from others_p cs i (ofPp 4 m.tx), show othersS cs i (ofP 3 m.tx) = _ from others_p cs i (ofPp 3 m.tx)]
    rfl
  | 2 =>
    show bareS _ _ = bareP _ _
    unfold bareS bareP
    rw [any_of, ht]
    rfl
  | k + 3 =>
    show strangeS _ _ _ _ = strangeP _ _ _ _
    unfold strangeS strangeP
    rw [show othersS cs i (strP m.tx m.groups) = _ from others_p cs i (strPp m.tx m.groups)]
    rfl
theorem pfx_p (cs : List Cm) (c : Cm) (i : Nat) (b : Ft) (j : Nat) : pfx cs c i b j = (pfxF (cs.map Cm.p) c.p i j).foldl bestOf b := by
  unfold pfx pfxF
  rw [List.getElem?_map]
  cases cs[j]? with
  | none => rfl
  | some d =>
    show _ = (one _ _).foldl bestOf b
    rw [fold_one]
    show (if d.whole = true ∧ d.group = c.group ∧ ¬ _ then _ else _) = if (d.whole && (decide (d.group = c.group) && !decide (d.M.take (min d.M.length c.M.length) = c.M.take (min d.M.length c.M.length)))) = true then _ else _
    simp only [Bool.and_eq_true, decide_eq_true_eq, Bool.not_eq_true', decide_eq_false_iff_not]
    rfl
theorem rec_p (cs : List Cm) (i : Nat) (c : Cm) (b : Ft) (at' : Nat) : recB cs i c b at' = (recF (cs.map Cm.p) c.p i at').foldl bestOf b := by
  unfold recB recF
  have e : c.p.recs[at']? = (c.recs[at']?).map Rm.p := List.getElem?_map
  rw [e]
  cases c.recs[at']? with
  | none => rfl
  | some m =>
    show _ = ((List.range 4).flatMap _).foldl bestOf b
    rw [fold_flat]
    refine foldl_ext _ _ _ _ (fun b k _ => ?_)
    rw [fold_one, ← brk_p]
    rfl
theorem cl_p (cs : List Cm) (b : Ft) (i : Nat) : clB cs b i = (clF (cs.map Cm.p) i).foldl bestOf b := by
  unfold clB clF
  rw [List.getElem?_map]
  cases cs[i]? with
  | none => rfl
  | some c =>
    show (if c.lt = false then _ else _) = (if c.lt = false then _ else _ : List Ft).foldl bestOf b
    by_cases h1 : c.lt = false
    · rw [if_pos h1, if_pos h1]; rfl
    · rw [if_neg h1, if_neg h1]
      show (if c.whole = false then _ else _) = (if c.whole = false then _ else _ : List Ft).foldl bestOf b
      by_cases h2 : c.whole = false
      · rw [if_pos h2, if_pos h2]; rfl
      · rw [if_neg h2, if_neg h2, List.foldl_append, fold_flat, fold_flat]
        have hl : c.p.recs.length = c.recs.length := List.length_map ..
        have e1 : prefixesB cs c i b = (List.range i).foldl (fun b x => (pfxF (cs.map Cm.p) c.p i x).foldl bestOf b) b := foldl_ext _ _ _ _ (fun b j _ => pfx_p cs c i b j)
        rw [e1]
        show _ = (List.range c.p.recs.length).foldl _ _
        rw [hl]
        exact foldl_ext _ _ _ _ (fun b j _ => rec_p cs i c b j)
theorem ver_p (cs : List Cm) : verS cs = verP (cs.map Cm.p) := by
  unfold verS verP faults
  rw [fold_flat, List.length_map]
  exact foldl_ext _ _ _ _ (fun b j _ => cl_p cs b j)

/-- Verify, plain. -/
theorem verify_p (A : Option Addr) (n c : Nat) (L : List Cl) (w : World) (hl : L.length = n) (hn : n ≤ 1000) (hr : ClsAt w A L) :
    Calls Try.prog 10 #[.slice A n c] w fun e w' => e = .returned (.tuple #[.agg #[.int .i64 (verP (L.map Cl.p)).1, .int .i64 (verP (L.map Cl.p)).2.1, .int .i64 (verP (L.map Cl.p)).2.2], .bool ((verP (L.map Cl.p)).1 == 0)]) ∧ Below w.heap.size w w' := by
  refine (verify_any A n c L w hl hn hr).mono ?_
  rintro e w' ⟨cs, hcs, rfl, hb⟩
  rw [ver_p, hcs]
  exact ⟨rfl, hb⟩

theorem best_mem (b f : Ft) : bestOf b f = b ∨ bestOf b f = f := by
  unfold bestOf
  split
  · exact .inr rfl
  · exact .inl rfl
theorem fold_mem : ∀ (l : List Ft) (b : Ft), l.foldl bestOf b = b ∨ l.foldl bestOf b ∈ l
  | [], b => .inl rfl
  | f :: l, b => by
    rw [List.foldl_cons]
    rcases fold_mem l (bestOf b f) with h | h
    · rw [h]
      rcases best_mem b f with h2 | h2
      · rw [h2]; exact .inl rfl
      · rw [h2]; exact .inr (by simp)
    · exact .inr (by simp [h])
theorem fold_some : ∀ (l : List Ft), l ≠ [] → l.foldl bestOf (0, 0, 0) ∈ l
  | [], h => absurd rfl h
  | f :: l, _ => by
    rw [List.foldl_cons, show bestOf (0, 0, 0) f = f from if_pos (.inl rfl)]
    rcases fold_mem l f with h | h
    · rw [h]; simp
    · simp [h]
theorem faults_pos (cs : List Cp) : ∀ f ∈ faults cs, 1 ≤ f.1 ∧ f.1 ≤ 7 := by
  intro f hf
  unfold faults at hf
  obtain ⟨i, _, hf⟩ := List.mem_flatMap.1 hf
  unfold clF at hf
  split at hf
  · rename_i c _
    split at hf
    · rw [List.mem_singleton.1 hf]; exact ⟨by simp, by simp⟩
    · split at hf
      · rw [List.mem_singleton.1 hf]; exact ⟨by simp, by simp⟩
      · rcases List.mem_append.1 hf with hf | hf
        · obtain ⟨j, _, hf⟩ := List.mem_flatMap.1 hf
          unfold pfxF at hf
          split at hf
          · unfold one at hf
            split at hf
            · rw [List.mem_singleton.1 hf]; exact ⟨by simp, by simp⟩
            · cases hf
          · cases hf
        · obtain ⟨j, _, hf⟩ := List.mem_flatMap.1 hf
          unfold recF at hf
          split at hf
          · obtain ⟨k, hk, hf⟩ := List.mem_flatMap.1 hf
            unfold one at hf
            split at hf
            · rw [List.mem_singleton.1 hf]
              have := List.mem_range.1 hk
              show 1 ≤ 4 + (k : Int) ∧ 4 + (k : Int) ≤ 7
              omega
            · cases hf
          · cases hf
  · cases hf
theorem verP_ok (cs : List Cp) : (verP cs).1 = 0 ↔ faults cs = [] := by
  constructor
  · intro h
    by_cases hf : faults cs = []
    · exact hf
    · have := (faults_pos cs _ (fold_some _ hf)).1
      unfold verP at h
      omega
  · intro h
    unfold verP
    rw [h]
    rfl
end Go.Proofs.Ytjakhemolecbnaa
end
