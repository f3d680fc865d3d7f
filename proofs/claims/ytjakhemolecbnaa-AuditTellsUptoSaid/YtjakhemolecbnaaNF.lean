/-
  The texts Prefixes, VerDefs, OutlineW of this proof in one (what is used of them): what each proves is said at its head. No conditions beyond those that each theorem says.
-/
import Derived.Test.YtjakhemolecbnaaNE5
import Derived.Test.YtjakhemolecbnaaNE2
import Derived.Test.YtjakhemolecbnaaNE4

/-
  The walk of the verifier's prefixes.
-/
section
set_option linter.unusedVariables false
set_option linter.unusedSimpArgs false
namespace Go.Proofs.Ytjakhemolecbnaa
open Go.RowKit

theorem bestOf_idem (b f : Int × Int × Int) : bestOf (bestOf b f) f = bestOf b f := by
  have h0 : ∀ x : Int × Int × Int, bestOf x x = x := fun x => by unfold bestOf; split <;> rfl
  by_cases h : b.1 = 0 ∨ orOf (sgnOf f.1 b.1) (sgnOf f.2.1 b.2.1) (sgnOf f.2.2 b.2.2) < 0
  · have e : bestOf b f = f := if_pos h
    rw [e, h0]
  · have e : bestOf b f = b := if_neg h
    rw [e, e]
theorem VF.cellsAt {w : World} {p bv ov vc : Nat} {cs : List Cm} {b : Int × Int × Int} (h : VF w p (some ⟨bv, ov, none⟩) vc cs b) {i : Nat} {c : Cm} (hc : cs[i]? = some c) : w.cell? ⟨bv, ov + i * 6, none⟩ = some (.int .i64 c.group) ∧ w.cell? ⟨bv, ov + i * 6 + 1, none⟩ = some (.slice c.lA c.M.length c.lc) ∧ w.cell? ⟨bv, ov + i * 6 + 2, none⟩ = some (.bool c.lt) ∧ w.cell? ⟨bv, ov + i * 6 + 3, none⟩ = some (.slice c.rA c.recs.length c.rc) ∧ w.cell? ⟨bv, ov + i * 6 + 4, none⟩ = some (.bool c.whole) ∧ w.cell? ⟨bv, ov + i * 6 + 5, none⟩ = some (.int .i64 c.en) := by
  obtain ⟨bv', ov', e, hp⟩ := h.part hc
  cases e
  exact hp w (Below.refl _ _)
theorem foldl_range_snoc {α : Type} (f : α → Nat → α) (b : α) (j : Nat) : (List.range (j + 1)).foldl f b = f ((List.range j).foldl f b) j := by rw [List.range_succ, List.foldl_append]; rfl
def pfx (cs : List Cm) (c : Cm) (i : Nat) (b : Int × Int × Int) (j : Nat) : Int × Int × Int := match cs[j]? with
  | some d => if d.whole = true ∧ d.group = c.group ∧ ¬ d.M.take (min d.M.length c.M.length) = c.M.take (min d.M.length c.M.length) then bestOf b (3, (i : Int), (unlikeS d.M c.M : Int)) else b
  | none => b
def prefixesB (cs : List Cm) (c : Cm) (i : Nat) (b : Int × Int × Int) : Int × Int × Int := (List.range i).foldl (pfx cs c i) b

set_option maxRecDepth 100000 in
set_option maxHeartbeats 8000000 in
theorem prefixes_any (p : Nat) (vA : Option Addr) (vc : Nat) (cs : List Cm) (b : Int × Int × Int) (i : Nat) (c : Cm) (w : World) (h : VF w p vA vc cs b) (hc : cs[i]? = some c) (hv : cs.length ≤ vc) :
    Calls Try.prog 33 #[.pointer (some ⟨p, 0, none⟩), .int .i64 (i : Int)] w fun e w' => e = .returned (.tuple #[]) ∧ VF w' p vA vc cs (prefixesB cs c i b) ∧ Upd (fun k => k = p) w w' := by
  have hi := (List.getElem?_eq_some_iff.1 hc).1
  have k0 := h.c0
  have hln := h.len
  have i0 : (0 : Int) ≤ (i : Int) := by omega
  have i1 : (i : Int) ≤ (vc : Int) := by omega
  have i2 : (i : Int) < (cs.length : Int) := by omega
  have HV := Lib.hid h
  have HC := Lib.hid hc
  have HI := Lib.hid hi
  clear h hc hv hi
  go_enter Try.func33, Try.ntmps33
  go_wp2_with fail
  go_loopg [13] i (fun k s13 wr => ∃ j : Nat, j ≤ i ∧ k = i - j ∧ s13 = .int .i64 (j : Int) ∧ (VF wr p vA vc cs ((List.range j).foldl (pfx cs c i) b) ∧ Upd (fun k => k = p) w wr))
  case atStart => exact ⟨0, Nat.zero_le _, by omega, rfl, HV.out, Upd.refl _ _⟩
  case round =>
    obtain ⟨j, hj, hk, rfl, hvf, hu⟩ := hrel
    have HK := Lib.hid hk
    have HU := Lib.hid hu
    by_cases hlt : j < i
    · obtain ⟨d, hd⟩ : ∃ d, cs[j]? = some d := ⟨_, List.getElem?_eq_getElem (by have := HI.out; omega)⟩
      obtain ⟨bv, ov, rfl, hp⟩ := hvf.part hd
      obtain ⟨q0, q1, q2, q3, q4, q5⟩ := hp wr (Below.refl _ _)
      have HVF := Lib.hid hvf
      have HLT := Lib.hid hlt
      have j0 : (0 : Int) ≤ (j : Int) := by omega
      have j1 : (j : Int) < (i : Int) := by omega
      have j2 : (j : Int) < (cs.length : Int) := by omega
      have hb2 : Below wr.heap.size wr (wr.alloc (.cells d.cells.toArray 73)) := (Below.refl _ _).alloc (Nat.le_refl _) _
      have hbx := heap_alloc_new wr (.cells d.cells.toArray 73)
      obtain ⟨w2, hw2⟩ : ∃ w2, w2 = wr.alloc (.cells d.cells.toArray 73) := ⟨_, rfl⟩
      rw [← hw2] at hb2 hbx
      obtain ⟨B, hB⟩ : ∃ B, B = (List.range j).foldl (pfx cs c i) b := ⟨_, rfl⟩
      rw [← hB] at HVF
      have hBs : (List.range (j + 1)).foldl (pfx cs c i) b = pfx cs c i B j := by rw [hB, foldl_range_snoc]
      have HV2 := Lib.hid (HVF.out.below hb2)
      have HW2 := Lib.hid hw2
      have HD := Lib.hid hd
      have cfd := HVF.out.cf d (List.mem_of_getElem? hd)
      have cfc := HVF.out.cf c (List.mem_of_getElem? HC.out)
      have FD := Lib.hid (show d.M.length ≤ 100000 ∧ c.M.length ≤ 100000 ∧ (∀ x ∈ d.M, x.2.length = 32) ∧ (∀ x ∈ c.M, x.2.length = 32) ∧ (∀ x ∈ d.M, x.1.length ≤ 1000000) ∧ (∀ x ∈ c.M, x.1.length ≤ 1000000) from ⟨Nat.le_trans cfd.lM (by decide), Nat.le_trans cfc.lM (by decide), cfd.hh, cfc.hh, fun x hx => Nat.le_trans (cfd.ht x hx) (by decide), fun x hx => Nat.le_trans (cfc.ht x hx) (by decide)⟩)
      have HUW := Lib.hid (show Upd (fun k => k = p) w w2 from HU.out.below hb2)
      have hpx : pfx cs c i B j = if d.whole = true ∧ d.group = c.group ∧ ¬ d.M.take (min d.M.length c.M.length) = c.M.take (min d.M.length c.M.length) then bestOf B (3, (i : Int), (unlikeS d.M c.M : Int)) else B := by unfold pfx; rw [hd]
      obtain ⟨q, hq⟩ : ∃ q, decide (d.M.take (min d.M.length c.M.length) = c.M.take (min d.M.length c.M.length)) = q := ⟨_, rfl⟩
      have HQ := Lib.hid hq
      obtain ⟨uu, huu⟩ : ∃ uu, unlikeS d.M c.M = uu := ⟨_, rfl⟩
      rw [huu] at hpx
      have HUU := Lib.hid huu
      have D0 : w2.cell? ⟨wr.heap.size, 0, none⟩ = some (.int .i64 d.group) := (cell_of_row w2 _ 0 _ _ _ hbx).trans rfl
      have D1 : w2.cell? ⟨wr.heap.size, 1, none⟩ = some (.slice d.lA d.M.length d.lc) := (cell_of_row w2 _ 1 _ _ _ hbx).trans rfl
      have D4 : w2.cell? ⟨wr.heap.size, 4, none⟩ = some (.bool d.whole) := (cell_of_row w2 _ 4 _ _ _ hbx).trans rfl
      obtain ⟨gd, hgd⟩ : ∃ gd, gd = wr.heap.size := ⟨_, rfl⟩
      have hgp : ¬ gd = p := by have := HVF.out.lt; omega
      have hgs : gd < w2.heap.size := by rw [hw2, hgd]; simp
      rw [← hgd] at D0 D1 D4
      have HGD := Lib.hid hgd
      have HGP := Lib.hid hgp
      have HGS := Lib.hid hgs
      have HR := Lib.hid (show ∀ W, VF W p (some ⟨bv, ov, none⟩) vc cs (pfx cs c i B j) → Upd (fun k => k = p) w2 W → ∃ j', j' ≤ i ∧ i - (j + 1) = i - j' ∧ (Value.int .i64 ((j + 1 : Nat) : Int)) = .int .i64 (j' : Int) ∧ (VF W p (some ⟨bv, ov, none⟩) vc cs ((List.range j').foldl (pfx cs c i) b) ∧ Upd (fun k => k = p) w W) from fun W h1 h2 => ⟨j + 1, HLT.out, rfl, rfl, by rw [hBs]; exact h1, HUW.out.trans h2 (fun _ _ h => h)⟩)
      clear hk hu hvf hj hlt hb2 hbx hw2 hB hBs hd cfd cfc hq huu hgd hgp hgs hp
      go_upto_region 3 with fail
      rw [show wr.alloc (.cells #[.int .i64 d.group, .slice d.lA d.M.length d.lc, .bool d.lt, .slice d.rA d.recs.length d.rc, .bool d.whole, .int .i64 d.en] 73) = w2 from HW2.out.symm, ← HGD.out]
      by_cases hwh : d.whole = true
      · rw [hwh] at D4
        by_cases hgr : d.group = c.group
        · have hgr1 : (d.group == c.group) = true := by simpa using hgr
          have HPX := Lib.hid (show pfx cs c i B j = if q = true then B else bestOf B (3, (i : Int), (uu : Int)) by
            rw [hpx]
            cases q with
            | true => rw [if_neg (fun h => h.2.2 (of_decide_eq_true HQ.out)), if_pos rfl]
            | false => rw [if_pos ⟨hwh, hgr, of_decide_eq_false HQ.out⟩, if_neg (by decide)])
          clear hpx hwh hgr
          refine region_by (fun W => Below w2.heap.size w2 W) [(fun v _ => v = .pointer (some ⟨gd, 4, none⟩)), (fun v _ => v = .bool true), (fun v _ => v = .bool true), (fun v _ => v = .pointer (some ⟨gd, 0, none⟩)), (fun v _ => v = .int .i64 d.group), (fun v _ => v = .pointer (some ⟨p, 0, none⟩)), (fun v _ => v = .pointer (some ⟨p, 0, none⟩)), (fun v _ => v = .pointer (some ⟨p, 0, none⟩)), (fun v _ => v = .slice (some ⟨bv, ov, none⟩) cs.length vc), (fun v _ => v = .int .i64 (i : Int)), (fun v _ => v = .pointer (some ⟨bv, ov + i * 6, none⟩)), (fun v _ => v = .pointer (some ⟨bv, ov + i * 6, none⟩)), (fun v _ => v = .int .i64 c.group), (fun v _ => v = .bool true), (fun v _ => v = .bool true), (fun v _ => v = .bool true), (fun v _ => v = .pointer (some ⟨gd, 1, none⟩)), (fun v _ => v = .slice d.lA d.M.length d.lc), (fun v _ => v = .pointer (some ⟨p, 0, none⟩)), (fun v _ => v = .pointer (some ⟨p, 0, none⟩)), (fun v _ => v = .pointer (some ⟨p, 0, none⟩)), (fun v _ => v = .slice (some ⟨bv, ov, none⟩) cs.length vc), (fun v _ => v = .int .i64 (i : Int)), (fun v _ => v = .pointer (some ⟨bv, ov + i * 6, none⟩)), (fun v _ => v = .pointer (some ⟨bv, ov + i * 6 + 1, none⟩)), (fun v _ => v = .slice c.lA c.M.length c.lc), fun v _ => v = .bool q, (fun v _ => v = .bool (!q)), (fun v _ => v = .bool (!q))] (by kernel_rfl) (by kernel_rfl) (by kernel_rfl) rfl ((Below.refl _ _).drew) ?ok3 ?fin3
          case ok3 =>
            refine ⟨?_, ?_, ?_, ?_, ?_, ?_, ?_, ?_, ?_, ?_, ?_, ?_, ?_, ?_, ?_, ?_, ?_, ?_, ?_, ?_, ?_, ?_, ?_, ?_, ?_, ?_, ?_, ?_, ?_, trivial⟩
            · intro a' w' K hI hd hq hK
              have e5 : a'.eval (.tmp 5) = .pointer (some ⟨gd, 0, none⟩) := (hq 5 (by kernel_rfl)).trans rfl
              clear hd hq
              refine op_value (wanted_free _ _ (by rfl)) (v := .pointer (some ⟨gd, 4, none⟩)) (w'' := w') ?_ (hK _ _ hI (fun _ _ h => h) rfl)
              clear hK
              simp only [execOp, e5]
              have f5 : a'.tmps[5]?.getD undef = .pointer (some ⟨gd, 0, none⟩) := (Array.getD_eq_getD_getElem? ..).symm.trans e5
              clear e5
              first | rfl | (go_simp <;> exact IntWalk.i64_in _ (by omega))
            · intro a' w' K hI hd hq hK
              have e17 : a'.eval (.tmp 17) = .pointer (some ⟨gd, 4, none⟩) := (hd 0 17 (by kernel_rfl))
              clear hd hq
              have cx := cell_below hI D4
              refine op_value (wanted_free _ _ (by rfl)) (v := .bool true) (w'' := w') ?_ (hK _ _ hI (fun _ _ h => h) rfl)
              clear hK
              simp only [execOp, e17]
              have f17 : a'.tmps[17]?.getD undef = .pointer (some ⟨gd, 4, none⟩) := (Array.getD_eq_getD_getElem? ..).symm.trans e17
              clear e17
              first | rfl | (go_simp <;> exact IntWalk.i64_in _ (by omega))
            · intro a' w' K hI hd hq hK
              have e18 : a'.eval (.tmp 18) = .bool true := (hd 1 18 (by kernel_rfl))
              clear hd hq
              refine op_value (wanted_free _ _ (by rfl)) (v := .bool true) (w'' := w') ?_ (hK _ _ hI (fun _ _ h => h) rfl)
              clear hK
              simp only [execOp, e18]
              have f18 : a'.tmps[18]?.getD undef = .bool true := (Array.getD_eq_getD_getElem? ..).symm.trans e18
              clear e18
              first | rfl | (go_simp <;> exact IntWalk.i64_in _ (by omega))
            · intro a' w' K hI hd hq hK
              have hg := hd 2 19 (by kernel_rfl)
              have e5 : a'.eval (.tmp 5) = .pointer (some ⟨gd, 0, none⟩) := (hq 5 (by kernel_rfl)).trans rfl
              clear hd hq
              refine op_value (wanted_on _ a' 2 19 true (by rfl) (by rfl) hg) (v := .pointer (some ⟨gd, 0, none⟩)) (w'' := w') ?_ (hK _ _ hI (fun _ _ h => h) rfl)
              clear hK
              simp only [execOp, e5]
              have f5 : a'.tmps[5]?.getD undef = .pointer (some ⟨gd, 0, none⟩) := (Array.getD_eq_getD_getElem? ..).symm.trans e5
              clear e5
              first | rfl | (go_simp <;> exact IntWalk.i64_in _ (by omega))
            · intro a' w' K hI hd hq hK
              have hg := hd 2 19 (by kernel_rfl)
              have e20 : a'.eval (.tmp 20) = .pointer (some ⟨gd, 0, none⟩) := (hd 3 20 (by kernel_rfl))
              clear hd hq
              have cx := cell_below hI D0
              refine op_value (wanted_on _ a' 2 19 true (by rfl) (by rfl) hg) (v := .int .i64 d.group) (w'' := w') ?_ (hK _ _ hI (fun _ _ h => h) rfl)
              clear hK
              simp only [execOp, e20]
              have f20 : a'.tmps[20]?.getD undef = .pointer (some ⟨gd, 0, none⟩) := (Array.getD_eq_getD_getElem? ..).symm.trans e20
              clear e20
              first | rfl | (go_simp <;> exact IntWalk.i64_in _ (by omega))
            · intro a' w' K hI hd hq hK
              have hg := hd 2 19 (by kernel_rfl)
              have e0 : a'.eval (.tmp 0) = .pointer (some ⟨p, 0, none⟩) := (hq 0 (by kernel_rfl)).trans rfl
              clear hd hq
              refine op_value (wanted_on _ a' 2 19 true (by rfl) (by rfl) hg) (v := .pointer (some ⟨p, 0, none⟩)) (w'' := w') ?_ (hK _ _ hI (fun _ _ h => h) rfl)
              clear hK
              simp only [execOp, e0]
              have f0 : a'.tmps[0]?.getD undef = .pointer (some ⟨p, 0, none⟩) := (Array.getD_eq_getD_getElem? ..).symm.trans e0
              clear e0
              first | rfl | (go_simp <;> exact IntWalk.i64_in _ (by omega))
            · intro a' w' K hI hd hq hK
              have hg := hd 2 19 (by kernel_rfl)
              have e22 : a'.eval (.tmp 22) = .pointer (some ⟨p, 0, none⟩) := (hd 5 22 (by kernel_rfl))
              clear hd hq
              refine op_value (wanted_on _ a' 2 19 true (by rfl) (by rfl) hg) (v := .pointer (some ⟨p, 0, none⟩)) (w'' := w') ?_ (hK _ _ hI (fun _ _ h => h) rfl)
              clear hK
              simp only [execOp, e22]
              have f22 : a'.tmps[22]?.getD undef = .pointer (some ⟨p, 0, none⟩) := (Array.getD_eq_getD_getElem? ..).symm.trans e22
              clear e22
              first | rfl | (go_simp <;> exact IntWalk.i64_in _ (by omega))
            · intro a' w' K hI hd hq hK
              have hg := hd 2 19 (by kernel_rfl)
              have e23 : a'.eval (.tmp 23) = .pointer (some ⟨p, 0, none⟩) := (hd 6 23 (by kernel_rfl))
              clear hd hq
              refine op_value (wanted_on _ a' 2 19 true (by rfl) (by rfl) hg) (v := .pointer (some ⟨p, 0, none⟩)) (w'' := w') ?_ (hK _ _ hI (fun _ _ h => h) rfl)
              clear hK
              simp only [execOp, e23]
              have f23 : a'.tmps[23]?.getD undef = .pointer (some ⟨p, 0, none⟩) := (Array.getD_eq_getD_getElem? ..).symm.trans e23
              clear e23
              first | rfl | (go_simp <;> exact IntWalk.i64_in _ (by omega))
            · intro a' w' K hI hd hq hK
              have hg := hd 2 19 (by kernel_rfl)
              have e24 : a'.eval (.tmp 24) = .pointer (some ⟨p, 0, none⟩) := (hd 7 24 (by kernel_rfl))
              clear hd hq
              have cx := (HV2.out.below hI).c0
              refine op_value (wanted_on _ a' 2 19 true (by rfl) (by rfl) hg) (v := .slice (some ⟨bv, ov, none⟩) cs.length vc) (w'' := w') ?_ (hK _ _ hI (fun _ _ h => h) rfl)
              clear hK
              simp only [execOp, e24]
              have f24 : a'.tmps[24]?.getD undef = .pointer (some ⟨p, 0, none⟩) := (Array.getD_eq_getD_getElem? ..).symm.trans e24
              clear e24
              first | rfl | (go_simp <;> exact IntWalk.i64_in _ (by omega))
            · intro a' w' K hI hd hq hK
              have hg := hd 2 19 (by kernel_rfl)
              have e1 : a'.eval (.tmp 1) = .int .i64 (i : Int) := (hq 1 (by kernel_rfl)).trans rfl
              clear hd hq
              refine op_value (wanted_on _ a' 2 19 true (by rfl) (by rfl) hg) (v := .int .i64 (i : Int)) (w'' := w') ?_ (hK _ _ hI (fun _ _ h => h) rfl)
              clear hK
              simp only [execOp, e1]
              have f1 : a'.tmps[1]?.getD undef = .int .i64 (i : Int) := (Array.getD_eq_getD_getElem? ..).symm.trans e1
              clear e1
              first | rfl | (go_simp <;> exact IntWalk.i64_in _ (by omega))
            · intro a' w' K hI hd hq hK
              have hg := hd 2 19 (by kernel_rfl)
              have e25 : a'.eval (.tmp 25) = .slice (some ⟨bv, ov, none⟩) cs.length vc := (hd 8 25 (by kernel_rfl))
              have e26 : a'.eval (.tmp 26) = .int .i64 (i : Int) := (hd 9 26 (by kernel_rfl))
              clear hd hq
              refine op_value (wanted_on _ a' 2 19 true (by rfl) (by rfl) hg) (v := .pointer (some ⟨bv, ov + i * 6, none⟩)) (w'' := w') ?_ (hK _ _ hI (fun _ _ h => h) rfl)
              clear hK
              simp only [execOp, e25, e26]
              have f25 : a'.tmps[25]?.getD undef = .slice (some ⟨bv, ov, none⟩) cs.length vc := (Array.getD_eq_getD_getElem? ..).symm.trans e25
              have f26 : a'.tmps[26]?.getD undef = .int .i64 (i : Int) := (Array.getD_eq_getD_getElem? ..).symm.trans e26
              clear e25 e26
              first | rfl | (go_simp <;> exact IntWalk.i64_in _ (by omega))
            · intro a' w' K hI hd hq hK
              have hg := hd 2 19 (by kernel_rfl)
              have e27 : a'.eval (.tmp 27) = .pointer (some ⟨bv, ov + i * 6, none⟩) := (hd 10 27 (by kernel_rfl))
              clear hd hq
              refine op_value (wanted_on _ a' 2 19 true (by rfl) (by rfl) hg) (v := .pointer (some ⟨bv, ov + i * 6, none⟩)) (w'' := w') ?_ (hK _ _ hI (fun _ _ h => h) rfl)
              clear hK
              simp only [execOp, e27]
              have f27 : a'.tmps[27]?.getD undef = .pointer (some ⟨bv, ov + i * 6, none⟩) := (Array.getD_eq_getD_getElem? ..).symm.trans e27
              clear e27
              first | rfl | (go_simp <;> exact IntWalk.i64_in _ (by omega))
            · intro a' w' K hI hd hq hK
              have hg := hd 2 19 (by kernel_rfl)
              have e28 : a'.eval (.tmp 28) = .pointer (some ⟨bv, ov + i * 6, none⟩) := (hd 11 28 (by kernel_rfl))
              clear hd hq
              have cx := ((HV2.out.below hI).cellsAt HC.out).1
              refine op_value (wanted_on _ a' 2 19 true (by rfl) (by rfl) hg) (v := .int .i64 c.group) (w'' := w') ?_ (hK _ _ hI (fun _ _ h => h) rfl)
              clear hK
              simp only [execOp, e28]
              have f28 : a'.tmps[28]?.getD undef = .pointer (some ⟨bv, ov + i * 6, none⟩) := (Array.getD_eq_getD_getElem? ..).symm.trans e28
              clear e28
              first | rfl | (go_simp <;> exact IntWalk.i64_in _ (by omega))
            · intro a' w' K hI hd hq hK
              have hg := hd 2 19 (by kernel_rfl)
              have e21 : a'.eval (.tmp 21) = .int .i64 d.group := (hd 4 21 (by kernel_rfl))
              have e29 : a'.eval (.tmp 29) = .int .i64 c.group := (hd 12 29 (by kernel_rfl))
              clear hd hq
              refine op_value (wanted_on _ a' 2 19 true (by rfl) (by rfl) hg) (v := .bool true) (w'' := w') ?_ (hK _ _ hI (fun _ _ h => h) rfl)
              clear hK
              simp only [execOp, e21, e29]
              have f21 : a'.tmps[21]?.getD undef = .int .i64 d.group := (Array.getD_eq_getD_getElem? ..).symm.trans e21
              have f29 : a'.tmps[29]?.getD undef = .int .i64 c.group := (Array.getD_eq_getD_getElem? ..).symm.trans e29
              clear e21 e29
              first | rfl | (go_simp <;> exact IntWalk.i64_in _ (by omega))
            · intro a' w' K hI hd hq hK
              have e19 : a'.eval (.tmp 19) = .bool true := (hd 2 19 (by kernel_rfl))
              have e30 : a'.eval (.tmp 30) = .bool true := (hd 13 30 (by kernel_rfl))
              clear hd hq
              refine op_value (wanted_free _ _ (by rfl)) (v := .bool true) (w'' := w') ?_ (hK _ _ hI (fun _ _ h => h) rfl)
              clear hK
              simp only [execOp, e19, e30]
              have f19 : a'.tmps[19]?.getD undef = .bool true := (Array.getD_eq_getD_getElem? ..).symm.trans e19
              have f30 : a'.tmps[30]?.getD undef = .bool true := (Array.getD_eq_getD_getElem? ..).symm.trans e30
              clear e19 e30
              first | rfl | (go_simp <;> exact IntWalk.i64_in _ (by omega))
            · intro a' w' K hI hd hq hK
              have e31 : a'.eval (.tmp 31) = .bool true := (hd 14 31 (by kernel_rfl))
              clear hd hq
              refine op_value (wanted_free _ _ (by rfl)) (v := .bool true) (w'' := w') ?_ (hK _ _ hI (fun _ _ h => h) rfl)
              clear hK
              simp only [execOp, e31]
              have f31 : a'.tmps[31]?.getD undef = .bool true := (Array.getD_eq_getD_getElem? ..).symm.trans e31
              clear e31
              first | rfl | (go_simp <;> exact IntWalk.i64_in _ (by omega))
            · intro a' w' K hI hd hq hK
              have hg := hd 15 32 (by kernel_rfl)
              have e5 : a'.eval (.tmp 5) = .pointer (some ⟨gd, 0, none⟩) := (hq 5 (by kernel_rfl)).trans rfl
              clear hd hq
              refine op_value (wanted_on _ a' 15 32 true (by rfl) (by rfl) hg) (v := .pointer (some ⟨gd, 1, none⟩)) (w'' := w') ?_ (hK _ _ hI (fun _ _ h => h) rfl)
              clear hK
              simp only [execOp, e5]
              have f5 : a'.tmps[5]?.getD undef = .pointer (some ⟨gd, 0, none⟩) := (Array.getD_eq_getD_getElem? ..).symm.trans e5
              clear e5
              first | rfl | (go_simp <;> exact IntWalk.i64_in _ (by omega))
            · intro a' w' K hI hd hq hK
              have hg := hd 15 32 (by kernel_rfl)
              have e33 : a'.eval (.tmp 33) = .pointer (some ⟨gd, 1, none⟩) := (hd 16 33 (by kernel_rfl))
              clear hd hq
              have cx := cell_below hI D1
              refine op_value (wanted_on _ a' 15 32 true (by rfl) (by rfl) hg) (v := .slice d.lA d.M.length d.lc) (w'' := w') ?_ (hK _ _ hI (fun _ _ h => h) rfl)
              clear hK
              simp only [execOp, e33]
              have f33 : a'.tmps[33]?.getD undef = .pointer (some ⟨gd, 1, none⟩) := (Array.getD_eq_getD_getElem? ..).symm.trans e33
              clear e33
              first | rfl | (go_simp <;> exact IntWalk.i64_in _ (by omega))
            · intro a' w' K hI hd hq hK
              have hg := hd 15 32 (by kernel_rfl)
              have e0 : a'.eval (.tmp 0) = .pointer (some ⟨p, 0, none⟩) := (hq 0 (by kernel_rfl)).trans rfl
              clear hd hq
              refine op_value (wanted_on _ a' 15 32 true (by rfl) (by rfl) hg) (v := .pointer (some ⟨p, 0, none⟩)) (w'' := w') ?_ (hK _ _ hI (fun _ _ h => h) rfl)
              clear hK
              simp only [execOp, e0]
              have f0 : a'.tmps[0]?.getD undef = .pointer (some ⟨p, 0, none⟩) := (Array.getD_eq_getD_getElem? ..).symm.trans e0
              clear e0
              first | rfl | (go_simp <;> exact IntWalk.i64_in _ (by omega))
            · intro a' w' K hI hd hq hK
              have hg := hd 15 32 (by kernel_rfl)
              have e35 : a'.eval (.tmp 35) = .pointer (some ⟨p, 0, none⟩) := (hd 18 35 (by kernel_rfl))
              clear hd hq
              refine op_value (wanted_on _ a' 15 32 true (by rfl) (by rfl) hg) (v := .pointer (some ⟨p, 0, none⟩)) (w'' := w') ?_ (hK _ _ hI (fun _ _ h => h) rfl)
              clear hK
              simp only [execOp, e35]
              have f35 : a'.tmps[35]?.getD undef = .pointer (some ⟨p, 0, none⟩) := (Array.getD_eq_getD_getElem? ..).symm.trans e35
              clear e35
              first | rfl | (go_simp <;> exact IntWalk.i64_in _ (by omega))
            · intro a' w' K hI hd hq hK
              have hg := hd 15 32 (by kernel_rfl)
              have e36 : a'.eval (.tmp 36) = .pointer (some ⟨p, 0, none⟩) := (hd 19 36 (by kernel_rfl))
              clear hd hq
              refine op_value (wanted_on _ a' 15 32 true (by rfl) (by rfl) hg) (v := .pointer (some ⟨p, 0, none⟩)) (w'' := w') ?_ (hK _ _ hI (fun _ _ h => h) rfl)
              clear hK
              simp only [execOp, e36]
              have f36 : a'.tmps[36]?.getD undef = .pointer (some ⟨p, 0, none⟩) := (Array.getD_eq_getD_getElem? ..).symm.trans e36
              clear e36
              first | rfl | (go_simp <;> exact IntWalk.i64_in _ (by omega))
            · intro a' w' K hI hd hq hK
              have hg := hd 15 32 (by kernel_rfl)
              have e37 : a'.eval (.tmp 37) = .pointer (some ⟨p, 0, none⟩) := (hd 20 37 (by kernel_rfl))
              clear hd hq
              have cx := (HV2.out.below hI).c0
              refine op_value (wanted_on _ a' 15 32 true (by rfl) (by rfl) hg) (v := .slice (some ⟨bv, ov, none⟩) cs.length vc) (w'' := w') ?_ (hK _ _ hI (fun _ _ h => h) rfl)
              clear hK
              simp only [execOp, e37]
              have f37 : a'.tmps[37]?.getD undef = .pointer (some ⟨p, 0, none⟩) := (Array.getD_eq_getD_getElem? ..).symm.trans e37
              clear e37
              first | rfl | (go_simp <;> exact IntWalk.i64_in _ (by omega))
            · intro a' w' K hI hd hq hK
              have hg := hd 15 32 (by kernel_rfl)
              have e1 : a'.eval (.tmp 1) = .int .i64 (i : Int) := (hq 1 (by kernel_rfl)).trans rfl
              clear hd hq
              refine op_value (wanted_on _ a' 15 32 true (by rfl) (by rfl) hg) (v := .int .i64 (i : Int)) (w'' := w') ?_ (hK _ _ hI (fun _ _ h => h) rfl)
              clear hK
              simp only [execOp, e1]
              have f1 : a'.tmps[1]?.getD undef = .int .i64 (i : Int) := (Array.getD_eq_getD_getElem? ..).symm.trans e1
              clear e1
              first | rfl | (go_simp <;> exact IntWalk.i64_in _ (by omega))
            · intro a' w' K hI hd hq hK
              have hg := hd 15 32 (by kernel_rfl)
              have e38 : a'.eval (.tmp 38) = .slice (some ⟨bv, ov, none⟩) cs.length vc := (hd 21 38 (by kernel_rfl))
              have e39 : a'.eval (.tmp 39) = .int .i64 (i : Int) := (hd 22 39 (by kernel_rfl))
              clear hd hq
              refine op_value (wanted_on _ a' 15 32 true (by rfl) (by rfl) hg) (v := .pointer (some ⟨bv, ov + i * 6, none⟩)) (w'' := w') ?_ (hK _ _ hI (fun _ _ h => h) rfl)
              clear hK
              simp only [execOp, e38, e39]
              have f38 : a'.tmps[38]?.getD undef = .slice (some ⟨bv, ov, none⟩) cs.length vc := (Array.getD_eq_getD_getElem? ..).symm.trans e38
              have f39 : a'.tmps[39]?.getD undef = .int .i64 (i : Int) := (Array.getD_eq_getD_getElem? ..).symm.trans e39
              clear e38 e39
              first | rfl | (go_simp <;> exact IntWalk.i64_in _ (by omega))
            · intro a' w' K hI hd hq hK
              have hg := hd 15 32 (by kernel_rfl)
              have e40 : a'.eval (.tmp 40) = .pointer (some ⟨bv, ov + i * 6, none⟩) := (hd 23 40 (by kernel_rfl))
              clear hd hq
              refine op_value (wanted_on _ a' 15 32 true (by rfl) (by rfl) hg) (v := .pointer (some ⟨bv, ov + i * 6 + 1, none⟩)) (w'' := w') ?_ (hK _ _ hI (fun _ _ h => h) rfl)
              clear hK
              simp only [execOp, e40]
              have f40 : a'.tmps[40]?.getD undef = .pointer (some ⟨bv, ov + i * 6, none⟩) := (Array.getD_eq_getD_getElem? ..).symm.trans e40
              clear e40
              first | rfl | (go_simp <;> exact IntWalk.i64_in _ (by omega))
            · intro a' w' K hI hd hq hK
              have hg := hd 15 32 (by kernel_rfl)
              have e41 : a'.eval (.tmp 41) = .pointer (some ⟨bv, ov + i * 6 + 1, none⟩) := (hd 24 41 (by kernel_rfl))
              clear hd hq
              have cx := ((HV2.out.below hI).cellsAt HC.out).2.1
              refine op_value (wanted_on _ a' 15 32 true (by rfl) (by rfl) hg) (v := .slice c.lA c.M.length c.lc) (w'' := w') ?_ (hK _ _ hI (fun _ _ h => h) rfl)
              clear hK
              simp only [execOp, e41]
              have f41 : a'.tmps[41]?.getD undef = .pointer (some ⟨bv, ov + i * 6 + 1, none⟩) := (Array.getD_eq_getD_getElem? ..).symm.trans e41
              clear e41
              first | rfl | (go_simp <;> exact IntWalk.i64_in _ (by omega))
            · intro a' w' K hI hd hq hK
              have hg := hd 15 32 (by kernel_rfl)
              have e34 : a'.eval (.tmp 34) = .slice d.lA d.M.length d.lc := (hd 17 34 (by kernel_rfl))
              have e42 : a'.eval (.tmp 42) = .slice c.lA c.M.length c.lc := (hd 25 42 (by kernel_rfl))
              clear hd hq
              refine op_call #[.slice d.lA d.M.length d.lc, .slice c.lA c.M.length c.lc] (wanted_on _ a' 15 32 true (by rfl) (by rfl) hg) rfl Try.func60 (by kernel_rfl) rfl (by simp [e34, e42]) ?_
              refine (prefix_any d.lA c.lA d.M.length d.lc c.M.length c.lc d.M c.M w' rfl rfl FD.out.1 FD.out.2.1 FD.out.2.2.1 FD.out.2.2.2.1 FD.out.2.2.2.2.1 FD.out.2.2.2.2.2 (((HV2.out.below hI).cf d (List.mem_of_getElem? HD.out)).rl.r) (((HV2.out.below hI).cf c (List.mem_of_getElem? HC.out)).rl.r)).mono ?_
              rw [HQ.out]
              rintro e w6 ⟨rfl, hb6⟩
              exact ⟨_, rfl, hK _ _ (below_below hI hI.size hb6) (fun j u => by match j with | 0 | 1 | 2 | 3 | 4 | 5 | 6 | 7 | 8 | 9 | 10 | 11 | 12 | 13 | 14 | 15 | 16 | 17 | 18 | 19 | 20 | 21 | 22 | 23 | 24 | 25 | 26 | 27 | 28 => exact fun h => h | _ + 29 => exact fun _ => trivial) rfl⟩
            · intro a' w' K hI hd hq hK
              have hg := hd 15 32 (by kernel_rfl)
              have e43 : a'.eval (.tmp 43) = .bool q := (hd 26 43 (by kernel_rfl))
              clear hd hq
              refine op_value (wanted_on _ a' 15 32 true (by rfl) (by rfl) hg) (v := .bool (!q)) (w'' := w') ?_ (hK _ _ hI (fun _ _ h => h) rfl)
              clear hK
              simp only [execOp, e43]
              have f43 : a'.tmps[43]?.getD undef = .bool q := (Array.getD_eq_getD_getElem? ..).symm.trans e43
              clear e43
              first | rfl | (go_simp <;> exact IntWalk.i64_in _ (by omega))
            · intro a' w' K hI hd hq hK
              have e32 : a'.eval (.tmp 32) = .bool true := (hd 15 32 (by kernel_rfl))
              have e44 : a'.eval (.tmp 44) = .bool (!q) := (hd 27 44 (by kernel_rfl))
              clear hd hq
              refine op_value (wanted_free _ _ (by rfl)) (v := .bool (!q)) (w'' := w') ?_ (hK _ _ hI (fun _ _ h => h) rfl)
              clear hK
              simp only [execOp, e32, e44]
              have f32 : a'.tmps[32]?.getD undef = .bool true := (Array.getD_eq_getD_getElem? ..).symm.trans e32
              have f44 : a'.tmps[44]?.getD undef = .bool (!q) := (Array.getD_eq_getD_getElem? ..).symm.trans e44
              clear e32 e44
              first | rfl | (go_simp <;> exact IntWalk.i64_in _ (by omega))
          case fin3 =>
            rintro w' hI _ rfl _ rfl _ rfl _ rfl _ rfl _ rfl _ rfl _ rfl _ rfl _ rfl _ rfl _ rfl _ rfl _ rfl _ rfl _ rfl _ rfl _ rfl _ rfl _ rfl _ rfl _ rfl _ rfl _ rfl _ rfl _ rfl _ rfl _ rfl _ rfl
            simp only [Act.put, List.setIfInBounds_toArray, List.set_cons_zero, List.set_cons_succ, FinGoal]
            cases q with
            | true =>
              have HIW := Lib.hid hI
              have HPY := Lib.hid (HPX.out.trans (if_pos rfl))
              clear hI
              go_wp2_with fail
              go_roundg (i - (j + 1))
              case measure => have := HK.out; have := HLT.out; omega
              case rel =>
                obtain ⟨j', h1, h2, h3, h4⟩ := HR.out _ (by rw [HPY.out]; exact HV2.out.below HIW.out) (Upd.of_below HIW.out)
                exact ⟨j', h1, h2, Eq.trans (by go_num) h3, h4⟩
            | false =>
              obtain ⟨w3, hw3⟩ : ∃ w3, w3 = w' := ⟨_, rfl⟩
              rw [← hw3] at hI ⊢
              clear hw3
              have HV3 := Lib.hid (HV2.out.below hI)
              have HIW := Lib.hid hI
              have HD1 := Lib.hid (show ∀ W, Upd (fun k => k = p) w3 W → W.cell? ⟨gd, 1, none⟩ = some (.slice d.lA d.M.length d.lc) from fun W hW => by
                have h1 := cell_below hI D1
                have h2 := hW.block gd (Nat.lt_of_lt_of_le HGS.out hI.size) HGP.out
                rw [← h1]
                simp only [World.cell?, h2])
              obtain ⟨B', hB'⟩ : ∃ B', bestOf B (3, (i : Int), (uu : Int)) = B' := ⟨_, rfl⟩
              have HBB := Lib.hid hB'
              have HPY := Lib.hid (HPX.out.trans ((if_neg (by decide)).trans hB'))
              clear hI hB'
              go_upto_region 4 with fail
              refine region_by (fun W => Upd (fun k => k = p) w3 W ∧ (VF W p (some ⟨bv, ov, none⟩) vc cs B ∨ VF W p (some ⟨bv, ov, none⟩) vc cs B')) [(fun v _ => v = .pointer (some ⟨p, 0, none⟩)), (fun v _ => v = .int .i64 (i : Int)), (fun v _ => v = .pointer (some ⟨gd, 1, none⟩)), (fun v _ => v = .slice d.lA d.M.length d.lc), (fun v _ => v = .pointer (some ⟨p, 0, none⟩)), (fun v _ => v = .pointer (some ⟨p, 0, none⟩)), (fun v _ => v = .pointer (some ⟨p, 0, none⟩)), (fun v _ => v = .slice (some ⟨bv, ov, none⟩) cs.length vc), (fun v _ => v = .int .i64 (i : Int)), (fun v _ => v = .pointer (some ⟨bv, ov + i * 6, none⟩)), (fun v _ => v = .pointer (some ⟨bv, ov + i * 6 + 1, none⟩)), (fun v _ => v = .slice c.lA c.M.length c.lc), fun v _ => v = .int .i64 (uu : Int), fun _ W => VF W p (some ⟨bv, ov, none⟩) vc cs B'] (by kernel_rfl) (by kernel_rfl) (by kernel_rfl) rfl (⟨(Upd.refl _ _).drew, .inl (HV3.out.below ((Below.refl _ _).drew))⟩) ?ok4 ?fin4
              case ok4 =>
                refine ⟨?_, ?_, ?_, ?_, ?_, ?_, ?_, ?_, ?_, ?_, ?_, ?_, ?_, ?_, trivial⟩
                · intro a' w' K hI hd hq hK
                  have e0 : a'.eval (.tmp 0) = .pointer (some ⟨p, 0, none⟩) := (hq 0 (by kernel_rfl)).trans rfl
                  clear hd hq
                  refine op_value (wanted_free _ _ (by rfl)) (v := .pointer (some ⟨p, 0, none⟩)) (w'' := w') ?_ (hK _ _ hI (fun _ _ h => h) rfl)
                  clear hK
                  simp only [execOp, e0]
                  have f0 : a'.tmps[0]?.getD undef = .pointer (some ⟨p, 0, none⟩) := (Array.getD_eq_getD_getElem? ..).symm.trans e0
                  clear e0
                  first | rfl | (go_simp <;> exact IntWalk.i64_in _ (by omega))
                · intro a' w' K hI hd hq hK
                  have e1 : a'.eval (.tmp 1) = .int .i64 (i : Int) := (hq 1 (by kernel_rfl)).trans rfl
                  clear hd hq
                  refine op_value (wanted_free _ _ (by rfl)) (v := .int .i64 (i : Int)) (w'' := w') ?_ (hK _ _ hI (fun _ _ h => h) rfl)
                  clear hK
                  simp only [execOp, e1]
                  have f1 : a'.tmps[1]?.getD undef = .int .i64 (i : Int) := (Array.getD_eq_getD_getElem? ..).symm.trans e1
                  clear e1
                  first | rfl | (go_simp <;> exact IntWalk.i64_in _ (by omega))
                · intro a' w' K hI hd hq hK
                  have e5 : a'.eval (.tmp 5) = .pointer (some ⟨gd, 0, none⟩) := (hq 5 (by kernel_rfl)).trans rfl
                  clear hd hq
                  refine op_value (wanted_free _ _ (by rfl)) (v := .pointer (some ⟨gd, 1, none⟩)) (w'' := w') ?_ (hK _ _ hI (fun _ _ h => h) rfl)
                  clear hK
                  simp only [execOp, e5]
                  have f5 : a'.tmps[5]?.getD undef = .pointer (some ⟨gd, 0, none⟩) := (Array.getD_eq_getD_getElem? ..).symm.trans e5
                  clear e5
                  first | rfl | (go_simp <;> exact IntWalk.i64_in _ (by omega))
                · intro a' w' K hI hd hq hK
                  have e48 : a'.eval (.tmp 48) = .pointer (some ⟨gd, 1, none⟩) := (hd 2 48 (by kernel_rfl))
                  clear hd hq
                  have cx := HD1.out _ hI.1
                  refine op_value (wanted_free _ _ (by rfl)) (v := .slice d.lA d.M.length d.lc) (w'' := w') ?_ (hK _ _ hI (fun _ _ h => h) rfl)
                  clear hK
                  simp only [execOp, e48]
                  have f48 : a'.tmps[48]?.getD undef = .pointer (some ⟨gd, 1, none⟩) := (Array.getD_eq_getD_getElem? ..).symm.trans e48
                  clear e48
                  first | rfl | (go_simp <;> exact IntWalk.i64_in _ (by omega))
                · intro a' w' K hI hd hq hK
                  have e0 : a'.eval (.tmp 0) = .pointer (some ⟨p, 0, none⟩) := (hq 0 (by kernel_rfl)).trans rfl
                  clear hd hq
                  refine op_value (wanted_free _ _ (by rfl)) (v := .pointer (some ⟨p, 0, none⟩)) (w'' := w') ?_ (hK _ _ hI (fun _ _ h => h) rfl)
                  clear hK
                  simp only [execOp, e0]
                  have f0 : a'.tmps[0]?.getD undef = .pointer (some ⟨p, 0, none⟩) := (Array.getD_eq_getD_getElem? ..).symm.trans e0
                  clear e0
                  first | rfl | (go_simp <;> exact IntWalk.i64_in _ (by omega))
                · intro a' w' K hI hd hq hK
                  have e50 : a'.eval (.tmp 50) = .pointer (some ⟨p, 0, none⟩) := (hd 4 50 (by kernel_rfl))
                  clear hd hq
                  refine op_value (wanted_free _ _ (by rfl)) (v := .pointer (some ⟨p, 0, none⟩)) (w'' := w') ?_ (hK _ _ hI (fun _ _ h => h) rfl)
                  clear hK
                  simp only [execOp, e50]
                  have f50 : a'.tmps[50]?.getD undef = .pointer (some ⟨p, 0, none⟩) := (Array.getD_eq_getD_getElem? ..).symm.trans e50
                  clear e50
                  first | rfl | (go_simp <;> exact IntWalk.i64_in _ (by omega))
                · intro a' w' K hI hd hq hK
                  have e51 : a'.eval (.tmp 51) = .pointer (some ⟨p, 0, none⟩) := (hd 5 51 (by kernel_rfl))
                  clear hd hq
                  refine op_value (wanted_free _ _ (by rfl)) (v := .pointer (some ⟨p, 0, none⟩)) (w'' := w') ?_ (hK _ _ hI (fun _ _ h => h) rfl)
                  clear hK
                  simp only [execOp, e51]
                  have f51 : a'.tmps[51]?.getD undef = .pointer (some ⟨p, 0, none⟩) := (Array.getD_eq_getD_getElem? ..).symm.trans e51
                  clear e51
                  first | rfl | (go_simp <;> exact IntWalk.i64_in _ (by omega))
                · intro a' w' K hI hd hq hK
                  have e52 : a'.eval (.tmp 52) = .pointer (some ⟨p, 0, none⟩) := (hd 6 52 (by kernel_rfl))
                  clear hd hq
                  have cx := hI.2.elim VF.c0 VF.c0
                  refine op_value (wanted_free _ _ (by rfl)) (v := .slice (some ⟨bv, ov, none⟩) cs.length vc) (w'' := w') ?_ (hK _ _ hI (fun _ _ h => h) rfl)
                  clear hK
                  simp only [execOp, e52]
                  have f52 : a'.tmps[52]?.getD undef = .pointer (some ⟨p, 0, none⟩) := (Array.getD_eq_getD_getElem? ..).symm.trans e52
                  clear e52
                  first | rfl | (go_simp <;> exact IntWalk.i64_in _ (by omega))
                · intro a' w' K hI hd hq hK
                  have e1 : a'.eval (.tmp 1) = .int .i64 (i : Int) := (hq 1 (by kernel_rfl)).trans rfl
                  clear hd hq
                  refine op_value (wanted_free _ _ (by rfl)) (v := .int .i64 (i : Int)) (w'' := w') ?_ (hK _ _ hI (fun _ _ h => h) rfl)
                  clear hK
                  simp only [execOp, e1]
                  have f1 : a'.tmps[1]?.getD undef = .int .i64 (i : Int) := (Array.getD_eq_getD_getElem? ..).symm.trans e1
                  clear e1
                  first | rfl | (go_simp <;> exact IntWalk.i64_in _ (by omega))
                · intro a' w' K hI hd hq hK
                  have e53 : a'.eval (.tmp 53) = .slice (some ⟨bv, ov, none⟩) cs.length vc := (hd 7 53 (by kernel_rfl))
                  have e54 : a'.eval (.tmp 54) = .int .i64 (i : Int) := (hd 8 54 (by kernel_rfl))
                  clear hd hq
                  refine op_value (wanted_free _ _ (by rfl)) (v := .pointer (some ⟨bv, ov + i * 6, none⟩)) (w'' := w') ?_ (hK _ _ hI (fun _ _ h => h) rfl)
                  clear hK
                  simp only [execOp, e53, e54]
                  have f53 : a'.tmps[53]?.getD undef = .slice (some ⟨bv, ov, none⟩) cs.length vc := (Array.getD_eq_getD_getElem? ..).symm.trans e53
                  have f54 : a'.tmps[54]?.getD undef = .int .i64 (i : Int) := (Array.getD_eq_getD_getElem? ..).symm.trans e54
                  clear e53 e54
                  first | rfl | (go_simp <;> exact IntWalk.i64_in _ (by omega))
                · intro a' w' K hI hd hq hK
                  have e55 : a'.eval (.tmp 55) = .pointer (some ⟨bv, ov + i * 6, none⟩) := (hd 9 55 (by kernel_rfl))
                  clear hd hq
                  refine op_value (wanted_free _ _ (by rfl)) (v := .pointer (some ⟨bv, ov + i * 6 + 1, none⟩)) (w'' := w') ?_ (hK _ _ hI (fun _ _ h => h) rfl)
                  clear hK
                  simp only [execOp, e55]
                  have f55 : a'.tmps[55]?.getD undef = .pointer (some ⟨bv, ov + i * 6, none⟩) := (Array.getD_eq_getD_getElem? ..).symm.trans e55
                  clear e55
                  first | rfl | (go_simp <;> exact IntWalk.i64_in _ (by omega))
                · intro a' w' K hI hd hq hK
                  have e56 : a'.eval (.tmp 56) = .pointer (some ⟨bv, ov + i * 6 + 1, none⟩) := (hd 10 56 (by kernel_rfl))
                  clear hd hq
                  have cx := hI.2.elim (fun h => (h.cellsAt HC.out).2.1) (fun h => (h.cellsAt HC.out).2.1)
                  refine op_value (wanted_free _ _ (by rfl)) (v := .slice c.lA c.M.length c.lc) (w'' := w') ?_ (hK _ _ hI (fun _ _ h => h) rfl)
                  clear hK
                  simp only [execOp, e56]
                  have f56 : a'.tmps[56]?.getD undef = .pointer (some ⟨bv, ov + i * 6 + 1, none⟩) := (Array.getD_eq_getD_getElem? ..).symm.trans e56
                  clear e56
                  first | rfl | (go_simp <;> exact IntWalk.i64_in _ (by omega))
                · intro a' w' K hI hd hq hK
                  have e49 : a'.eval (.tmp 49) = .slice d.lA d.M.length d.lc := (hd 3 49 (by kernel_rfl))
                  have e57 : a'.eval (.tmp 57) = .slice c.lA c.M.length c.lc := (hd 11 57 (by kernel_rfl))
                  clear hd hq
                  obtain ⟨BB, hBB⟩ : ∃ BB, VF w' p (some ⟨bv, ov, none⟩) vc cs BB := hI.2.elim (fun h => ⟨_, h⟩) (fun h => ⟨_, h⟩)
                  refine op_call #[.slice d.lA d.M.length d.lc, .slice c.lA c.M.length c.lc] (wanted_free _ _ (by rfl)) rfl Try.func61 (by kernel_rfl) rfl (by simp [e49, e57]) ?_
                  refine (unlike_any d.lA c.lA d.M.length d.lc c.M.length c.lc d.M c.M w' rfl rfl FD.out.1 FD.out.2.1 FD.out.2.2.1 FD.out.2.2.2.1 FD.out.2.2.2.2.1 FD.out.2.2.2.2.2 ((hBB.cf d (List.mem_of_getElem? HD.out)).rl.r) ((hBB.cf c (List.mem_of_getElem? HC.out)).rl.r)).mono ?_
                  rw [HUU.out]
                  rintro e w6 ⟨rfl, hb6⟩
                  exact ⟨_, rfl, hK _ _ ⟨hI.1.below hb6, hI.2.elim (fun h => .inl (h.below hb6)) (fun h => .inr (h.below hb6))⟩ (fun j u => by match j with | 0 | 1 | 2 | 3 | 4 | 5 | 6 | 7 | 8 | 9 | 10 | 11 | 12 => exact fun h => h | 13 => exact fun h => VF.below h hb6 | _ + 14 => exact fun _ => trivial) rfl⟩
                · intro a' w' K hI hd hq hK
                  have e46 : a'.eval (.tmp 46) = .pointer (some ⟨p, 0, none⟩) := (hd 0 46 (by kernel_rfl))
                  have e47 : a'.eval (.tmp 47) = .int .i64 (i : Int) := (hd 1 47 (by kernel_rfl))
                  have e58 : a'.eval (.tmp 58) = .int .i64 (uu : Int) := (hd 12 58 (by kernel_rfl))
                  clear hd hq
                  obtain ⟨BB, hBB, hbb⟩ : ∃ BB, VF w' p (some ⟨bv, ov, none⟩) vc cs BB ∧ bestOf BB (3, (i : Int), (uu : Int)) = B' := hI.2.elim (fun h => ⟨_, h, HBB.out⟩) (fun h => ⟨_, h, by rw [← HBB.out]; exact bestOf_idem _ _⟩)
                  refine op_call #[.pointer (some ⟨p, 0, none⟩), .int .i64 3, .int .i64 (i : Int), .int .i64 (uu : Int)] (wanted_free _ _ (by rfl)) rfl Try.func32 (by kernel_rfl) rfl (by simp only [List.map_toArray, List.map_cons, List.map_nil, e46, e47, e58]; rfl) ?_
                  refine (found_any p _ BB 3 (i : Int) (uu : Int) w' hBB.at_).mono ?_
                  rw [hbb]
                  rintro e w6 ⟨rfl, hv6, hu6⟩
                  have hvf := hBB.turn hu6 hv6
                  exact ⟨_, rfl, hK _ _ ⟨hI.1.trans hu6 (fun _ _ h => h), .inr hvf⟩ (fun j u => by match j with | 0 | 1 | 2 | 3 | 4 | 5 | 6 | 7 | 8 | 9 | 10 | 11 | 12 => exact fun h => h | 13 => exact fun _ => hvf | _ + 14 => exact fun _ => trivial) hvf⟩
              case fin4 =>
                rintro w' hI _ rfl _ rfl _ rfl _ rfl _ rfl _ rfl _ rfl _ rfl _ rfl _ rfl _ rfl _ rfl _ rfl _ hfin
                simp only [Act.put, List.setIfInBounds_toArray, List.set_cons_zero, List.set_cons_succ, FinGoal]
                have HFIN := Lib.hid hfin
                have HIX := Lib.hid hI
                clear hfin hI
                go_wp2_with fail
                go_roundg (i - (j + 1))
                case measure => have := HK.out; have := HLT.out; omega
                case rel =>
                  obtain ⟨j', h1, h2, h3, h4⟩ := HR.out _ (by rw [HPY.out]; exact HFIN.out) ((Upd.of_below HIW.out).trans HIX.out.1 (fun _ _ h => h))
                  exact ⟨j', h1, h2, Eq.trans (by go_num) h3, h4⟩
        · have hgr1 : (d.group == c.group) = false := by simpa using hgr
          have HPY := Lib.hid (hpx.trans (if_neg fun h => hgr h.2.1))
          clear hpx hwh hgr
          refine region_by (fun W => Below w2.heap.size w2 W) [(fun v _ => v = .pointer (some ⟨gd, 4, none⟩)), (fun v _ => v = .bool true), (fun v _ => v = .bool true), (fun v _ => v = .pointer (some ⟨gd, 0, none⟩)), (fun v _ => v = .int .i64 d.group), (fun v _ => v = .pointer (some ⟨p, 0, none⟩)), (fun v _ => v = .pointer (some ⟨p, 0, none⟩)), (fun v _ => v = .pointer (some ⟨p, 0, none⟩)), (fun v _ => v = .slice (some ⟨bv, ov, none⟩) cs.length vc), (fun v _ => v = .int .i64 (i : Int)), (fun v _ => v = .pointer (some ⟨bv, ov + i * 6, none⟩)), (fun v _ => v = .pointer (some ⟨bv, ov + i * 6, none⟩)), (fun v _ => v = .int .i64 c.group), (fun v _ => v = .bool false), (fun v _ => v = .bool false), (fun v _ => v = .bool false), (fun v _ => v = undef), (fun v _ => v = undef), (fun v _ => v = undef), (fun v _ => v = undef), (fun v _ => v = undef), (fun v _ => v = undef), (fun v _ => v = undef), (fun v _ => v = undef), (fun v _ => v = undef), (fun v _ => v = undef), (fun v _ => v = undef), (fun v _ => v = undef), (fun v _ => v = .bool false)] (by kernel_rfl) (by kernel_rfl) (by kernel_rfl) rfl ((Below.refl _ _).drew) ?ok3 ?fin3
          case ok3 =>
            refine ⟨?_, ?_, ?_, ?_, ?_, ?_, ?_, ?_, ?_, ?_, ?_, ?_, ?_, ?_, ?_, ?_, ?_, ?_, ?_, ?_, ?_, ?_, ?_, ?_, ?_, ?_, ?_, ?_, ?_, trivial⟩
            · intro a' w' K hI hd hq hK
              have e5 : a'.eval (.tmp 5) = .pointer (some ⟨gd, 0, none⟩) := (hq 5 (by kernel_rfl)).trans rfl
              clear hd hq
              refine op_value (wanted_free _ _ (by rfl)) (v := .pointer (some ⟨gd, 4, none⟩)) (w'' := w') ?_ (hK _ _ hI (fun _ _ h => h) rfl)
              clear hK
              simp only [execOp, e5]
              have f5 : a'.tmps[5]?.getD undef = .pointer (some ⟨gd, 0, none⟩) := (Array.getD_eq_getD_getElem? ..).symm.trans e5
              clear e5
              first | rfl | (go_simp <;> exact IntWalk.i64_in _ (by omega))
            · intro a' w' K hI hd hq hK
              have e17 : a'.eval (.tmp 17) = .pointer (some ⟨gd, 4, none⟩) := (hd 0 17 (by kernel_rfl))
              clear hd hq
              have cx := cell_below hI D4
              refine op_value (wanted_free _ _ (by rfl)) (v := .bool true) (w'' := w') ?_ (hK _ _ hI (fun _ _ h => h) rfl)
              clear hK
              simp only [execOp, e17]
              have f17 : a'.tmps[17]?.getD undef = .pointer (some ⟨gd, 4, none⟩) := (Array.getD_eq_getD_getElem? ..).symm.trans e17
              clear e17
              first | rfl | (go_simp <;> exact IntWalk.i64_in _ (by omega))
            · intro a' w' K hI hd hq hK
              have e18 : a'.eval (.tmp 18) = .bool true := (hd 1 18 (by kernel_rfl))
              clear hd hq
              refine op_value (wanted_free _ _ (by rfl)) (v := .bool true) (w'' := w') ?_ (hK _ _ hI (fun _ _ h => h) rfl)
              clear hK
              simp only [execOp, e18]
              have f18 : a'.tmps[18]?.getD undef = .bool true := (Array.getD_eq_getD_getElem? ..).symm.trans e18
              clear e18
              first | rfl | (go_simp <;> exact IntWalk.i64_in _ (by omega))
            · intro a' w' K hI hd hq hK
              have hg := hd 2 19 (by kernel_rfl)
              have e5 : a'.eval (.tmp 5) = .pointer (some ⟨gd, 0, none⟩) := (hq 5 (by kernel_rfl)).trans rfl
              clear hd hq
              refine op_value (wanted_on _ a' 2 19 true (by rfl) (by rfl) hg) (v := .pointer (some ⟨gd, 0, none⟩)) (w'' := w') ?_ (hK _ _ hI (fun _ _ h => h) rfl)
              clear hK
              simp only [execOp, e5]
              have f5 : a'.tmps[5]?.getD undef = .pointer (some ⟨gd, 0, none⟩) := (Array.getD_eq_getD_getElem? ..).symm.trans e5
              clear e5
              first | rfl | (go_simp <;> exact IntWalk.i64_in _ (by omega))
            · intro a' w' K hI hd hq hK
              have hg := hd 2 19 (by kernel_rfl)
              have e20 : a'.eval (.tmp 20) = .pointer (some ⟨gd, 0, none⟩) := (hd 3 20 (by kernel_rfl))
              clear hd hq
              have cx := cell_below hI D0
              refine op_value (wanted_on _ a' 2 19 true (by rfl) (by rfl) hg) (v := .int .i64 d.group) (w'' := w') ?_ (hK _ _ hI (fun _ _ h => h) rfl)
              clear hK
              simp only [execOp, e20]
              have f20 : a'.tmps[20]?.getD undef = .pointer (some ⟨gd, 0, none⟩) := (Array.getD_eq_getD_getElem? ..).symm.trans e20
              clear e20
              first | rfl | (go_simp <;> exact IntWalk.i64_in _ (by omega))
            · intro a' w' K hI hd hq hK
              have hg := hd 2 19 (by kernel_rfl)
              have e0 : a'.eval (.tmp 0) = .pointer (some ⟨p, 0, none⟩) := (hq 0 (by kernel_rfl)).trans rfl
              clear hd hq
              refine op_value (wanted_on _ a' 2 19 true (by rfl) (by rfl) hg) (v := .pointer (some ⟨p, 0, none⟩)) (w'' := w') ?_ (hK _ _ hI (fun _ _ h => h) rfl)
              clear hK
              simp only [execOp, e0]
              have f0 : a'.tmps[0]?.getD undef = .pointer (some ⟨p, 0, none⟩) := (Array.getD_eq_getD_getElem? ..).symm.trans e0
              clear e0
              first | rfl | (go_simp <;> exact IntWalk.i64_in _ (by omega))
            · intro a' w' K hI hd hq hK
              have hg := hd 2 19 (by kernel_rfl)
              have e22 : a'.eval (.tmp 22) = .pointer (some ⟨p, 0, none⟩) := (hd 5 22 (by kernel_rfl))
              clear hd hq
              refine op_value (wanted_on _ a' 2 19 true (by rfl) (by rfl) hg) (v := .pointer (some ⟨p, 0, none⟩)) (w'' := w') ?_ (hK _ _ hI (fun _ _ h => h) rfl)
              clear hK
              simp only [execOp, e22]
              have f22 : a'.tmps[22]?.getD undef = .pointer (some ⟨p, 0, none⟩) := (Array.getD_eq_getD_getElem? ..).symm.trans e22
              clear e22
              first | rfl | (go_simp <;> exact IntWalk.i64_in _ (by omega))
            · intro a' w' K hI hd hq hK
              have hg := hd 2 19 (by kernel_rfl)
              have e23 : a'.eval (.tmp 23) = .pointer (some ⟨p, 0, none⟩) := (hd 6 23 (by kernel_rfl))
              clear hd hq
              refine op_value (wanted_on _ a' 2 19 true (by rfl) (by rfl) hg) (v := .pointer (some ⟨p, 0, none⟩)) (w'' := w') ?_ (hK _ _ hI (fun _ _ h => h) rfl)
              clear hK
              simp only [execOp, e23]
              have f23 : a'.tmps[23]?.getD undef = .pointer (some ⟨p, 0, none⟩) := (Array.getD_eq_getD_getElem? ..).symm.trans e23
              clear e23
              first | rfl | (go_simp <;> exact IntWalk.i64_in _ (by omega))
            · intro a' w' K hI hd hq hK
              have hg := hd 2 19 (by kernel_rfl)
              have e24 : a'.eval (.tmp 24) = .pointer (some ⟨p, 0, none⟩) := (hd 7 24 (by kernel_rfl))
              clear hd hq
              have cx := (HV2.out.below hI).c0
              refine op_value (wanted_on _ a' 2 19 true (by rfl) (by rfl) hg) (v := .slice (some ⟨bv, ov, none⟩) cs.length vc) (w'' := w') ?_ (hK _ _ hI (fun _ _ h => h) rfl)
              clear hK
              simp only [execOp, e24]
              have f24 : a'.tmps[24]?.getD undef = .pointer (some ⟨p, 0, none⟩) := (Array.getD_eq_getD_getElem? ..).symm.trans e24
              clear e24
              first | rfl | (go_simp <;> exact IntWalk.i64_in _ (by omega))
            · intro a' w' K hI hd hq hK
              have hg := hd 2 19 (by kernel_rfl)
              have e1 : a'.eval (.tmp 1) = .int .i64 (i : Int) := (hq 1 (by kernel_rfl)).trans rfl
              clear hd hq
              refine op_value (wanted_on _ a' 2 19 true (by rfl) (by rfl) hg) (v := .int .i64 (i : Int)) (w'' := w') ?_ (hK _ _ hI (fun _ _ h => h) rfl)
              clear hK
              simp only [execOp, e1]
              have f1 : a'.tmps[1]?.getD undef = .int .i64 (i : Int) := (Array.getD_eq_getD_getElem? ..).symm.trans e1
              clear e1
              first | rfl | (go_simp <;> exact IntWalk.i64_in _ (by omega))
            · intro a' w' K hI hd hq hK
              have hg := hd 2 19 (by kernel_rfl)
              have e25 : a'.eval (.tmp 25) = .slice (some ⟨bv, ov, none⟩) cs.length vc := (hd 8 25 (by kernel_rfl))
              have e26 : a'.eval (.tmp 26) = .int .i64 (i : Int) := (hd 9 26 (by kernel_rfl))
              clear hd hq
              refine op_value (wanted_on _ a' 2 19 true (by rfl) (by rfl) hg) (v := .pointer (some ⟨bv, ov + i * 6, none⟩)) (w'' := w') ?_ (hK _ _ hI (fun _ _ h => h) rfl)
              clear hK
              simp only [execOp, e25, e26]
              have f25 : a'.tmps[25]?.getD undef = .slice (some ⟨bv, ov, none⟩) cs.length vc := (Array.getD_eq_getD_getElem? ..).symm.trans e25
              have f26 : a'.tmps[26]?.getD undef = .int .i64 (i : Int) := (Array.getD_eq_getD_getElem? ..).symm.trans e26
              clear e25 e26
              first | rfl | (go_simp <;> exact IntWalk.i64_in _ (by omega))
            · intro a' w' K hI hd hq hK
              have hg := hd 2 19 (by kernel_rfl)
              have e27 : a'.eval (.tmp 27) = .pointer (some ⟨bv, ov + i * 6, none⟩) := (hd 10 27 (by kernel_rfl))
              clear hd hq
              refine op_value (wanted_on _ a' 2 19 true (by rfl) (by rfl) hg) (v := .pointer (some ⟨bv, ov + i * 6, none⟩)) (w'' := w') ?_ (hK _ _ hI (fun _ _ h => h) rfl)
              clear hK
              simp only [execOp, e27]
              have f27 : a'.tmps[27]?.getD undef = .pointer (some ⟨bv, ov + i * 6, none⟩) := (Array.getD_eq_getD_getElem? ..).symm.trans e27
              clear e27
              first | rfl | (go_simp <;> exact IntWalk.i64_in _ (by omega))
            · intro a' w' K hI hd hq hK
              have hg := hd 2 19 (by kernel_rfl)
              have e28 : a'.eval (.tmp 28) = .pointer (some ⟨bv, ov + i * 6, none⟩) := (hd 11 28 (by kernel_rfl))
              clear hd hq
              have cx := ((HV2.out.below hI).cellsAt HC.out).1
              refine op_value (wanted_on _ a' 2 19 true (by rfl) (by rfl) hg) (v := .int .i64 c.group) (w'' := w') ?_ (hK _ _ hI (fun _ _ h => h) rfl)
              clear hK
              simp only [execOp, e28]
              have f28 : a'.tmps[28]?.getD undef = .pointer (some ⟨bv, ov + i * 6, none⟩) := (Array.getD_eq_getD_getElem? ..).symm.trans e28
              clear e28
              first | rfl | (go_simp <;> exact IntWalk.i64_in _ (by omega))
            · intro a' w' K hI hd hq hK
              have hg := hd 2 19 (by kernel_rfl)
              have e21 : a'.eval (.tmp 21) = .int .i64 d.group := (hd 4 21 (by kernel_rfl))
              have e29 : a'.eval (.tmp 29) = .int .i64 c.group := (hd 12 29 (by kernel_rfl))
              clear hd hq
              refine op_value (wanted_on _ a' 2 19 true (by rfl) (by rfl) hg) (v := .bool false) (w'' := w') ?_ (hK _ _ hI (fun _ _ h => h) rfl)
              clear hK
              simp only [execOp, e21, e29]
              have f21 : a'.tmps[21]?.getD undef = .int .i64 d.group := (Array.getD_eq_getD_getElem? ..).symm.trans e21
              have f29 : a'.tmps[29]?.getD undef = .int .i64 c.group := (Array.getD_eq_getD_getElem? ..).symm.trans e29
              clear e21 e29
              first | rfl | (go_simp <;> exact IntWalk.i64_in _ (by omega))
            · intro a' w' K hI hd hq hK
              have e19 : a'.eval (.tmp 19) = .bool true := (hd 2 19 (by kernel_rfl))
              have e30 : a'.eval (.tmp 30) = .bool false := (hd 13 30 (by kernel_rfl))
              clear hd hq
              refine op_value (wanted_free _ _ (by rfl)) (v := .bool false) (w'' := w') ?_ (hK _ _ hI (fun _ _ h => h) rfl)
              clear hK
              simp only [execOp, e19, e30]
              have f19 : a'.tmps[19]?.getD undef = .bool true := (Array.getD_eq_getD_getElem? ..).symm.trans e19
              have f30 : a'.tmps[30]?.getD undef = .bool false := (Array.getD_eq_getD_getElem? ..).symm.trans e30
              clear e19 e30
              first | rfl | (go_simp <;> exact IntWalk.i64_in _ (by omega))
            · intro a' w' K hI hd hq hK
              have e31 : a'.eval (.tmp 31) = .bool false := (hd 14 31 (by kernel_rfl))
              clear hd hq
              refine op_value (wanted_free _ _ (by rfl)) (v := .bool false) (w'' := w') ?_ (hK _ _ hI (fun _ _ h => h) rfl)
              clear hK
              simp only [execOp, e31]
              have f31 : a'.tmps[31]?.getD undef = .bool false := (Array.getD_eq_getD_getElem? ..).symm.trans e31
              clear e31
              first | rfl | (go_simp <;> exact IntWalk.i64_in _ (by omega))
            · intro a' w' K hI hd hq hK
              have hg := hd 15 32 (by kernel_rfl)
              rw [if_neg (by rw [wanted_off _ a' 15 32 true (by rfl) (by rfl) hg]; decide)]
              exact hK _ _ hI (fun _ _ h => h) rfl
            · intro a' w' K hI hd hq hK
              have hg := hd 15 32 (by kernel_rfl)
              rw [if_neg (by rw [wanted_off _ a' 15 32 true (by rfl) (by rfl) hg]; decide)]
              exact hK _ _ hI (fun _ _ h => h) rfl
            · intro a' w' K hI hd hq hK
              have hg := hd 15 32 (by kernel_rfl)
              rw [if_neg (by rw [wanted_off _ a' 15 32 true (by rfl) (by rfl) hg]; decide)]
              exact hK _ _ hI (fun _ _ h => h) rfl
            · intro a' w' K hI hd hq hK
              have hg := hd 15 32 (by kernel_rfl)
              rw [if_neg (by rw [wanted_off _ a' 15 32 true (by rfl) (by rfl) hg]; decide)]
              exact hK _ _ hI (fun _ _ h => h) rfl
            · intro a' w' K hI hd hq hK
              have hg := hd 15 32 (by kernel_rfl)
              rw [if_neg (by rw [wanted_off _ a' 15 32 true (by rfl) (by rfl) hg]; decide)]
              exact hK _ _ hI (fun _ _ h => h) rfl
            · intro a' w' K hI hd hq hK
              have hg := hd 15 32 (by kernel_rfl)
              rw [if_neg (by rw [wanted_off _ a' 15 32 true (by rfl) (by rfl) hg]; decide)]
              exact hK _ _ hI (fun _ _ h => h) rfl
            · intro a' w' K hI hd hq hK
              have hg := hd 15 32 (by kernel_rfl)
              rw [if_neg (by rw [wanted_off _ a' 15 32 true (by rfl) (by rfl) hg]; decide)]
              exact hK _ _ hI (fun _ _ h => h) rfl
            · intro a' w' K hI hd hq hK
              have hg := hd 15 32 (by kernel_rfl)
              rw [if_neg (by rw [wanted_off _ a' 15 32 true (by rfl) (by rfl) hg]; decide)]
              exact hK _ _ hI (fun _ _ h => h) rfl
            · intro a' w' K hI hd hq hK
              have hg := hd 15 32 (by kernel_rfl)
              rw [if_neg (by rw [wanted_off _ a' 15 32 true (by rfl) (by rfl) hg]; decide)]
              exact hK _ _ hI (fun _ _ h => h) rfl
            · intro a' w' K hI hd hq hK
              have hg := hd 15 32 (by kernel_rfl)
              rw [if_neg (by rw [wanted_off _ a' 15 32 true (by rfl) (by rfl) hg]; decide)]
              exact hK _ _ hI (fun _ _ h => h) rfl
            · intro a' w' K hI hd hq hK
              have hg := hd 15 32 (by kernel_rfl)
              rw [if_neg (by rw [wanted_off _ a' 15 32 true (by rfl) (by rfl) hg]; decide)]
              exact hK _ _ hI (fun _ _ h => h) rfl
            · intro a' w' K hI hd hq hK
              have hg := hd 15 32 (by kernel_rfl)
              rw [if_neg (by rw [wanted_off _ a' 15 32 true (by rfl) (by rfl) hg]; decide)]
              exact hK _ _ hI (fun _ _ h => h) rfl
            · intro a' w' K hI hd hq hK
              have e32 : a'.eval (.tmp 32) = .bool false := (hd 15 32 (by kernel_rfl))
              have e44 : a'.eval (.tmp 44) = undef := (hd 27 44 (by kernel_rfl))
              clear hd hq
              refine op_value (wanted_free _ _ (by rfl)) (v := .bool false) (w'' := w') ?_ (hK _ _ hI (fun _ _ h => h) rfl)
              clear hK
              simp only [execOp, e32, e44]
              have f32 : a'.tmps[32]?.getD undef = .bool false := (Array.getD_eq_getD_getElem? ..).symm.trans e32
              have f44 : a'.tmps[44]?.getD undef = undef := (Array.getD_eq_getD_getElem? ..).symm.trans e44
              clear e32 e44
              first | rfl | (go_simp <;> exact IntWalk.i64_in _ (by omega))
          case fin3 =>
            rintro w' hI _ rfl _ rfl _ rfl _ rfl _ rfl _ rfl _ rfl _ rfl _ rfl _ rfl _ rfl _ rfl _ rfl _ rfl _ rfl _ rfl _ rfl _ rfl _ rfl _ rfl _ rfl _ rfl _ rfl _ rfl _ rfl _ rfl _ rfl _ rfl _ rfl
            simp only [Act.put, List.setIfInBounds_toArray, List.set_cons_zero, List.set_cons_succ, FinGoal]
            have HIW := Lib.hid hI
            clear hI
            go_wp2_with fail
            go_roundg (i - (j + 1))
            case measure => have := HK.out; have := HLT.out; omega
            case rel =>
              obtain ⟨j', h1, h2, h3, h4⟩ := HR.out _ (by rw [HPY.out]; exact HV2.out.below HIW.out) (Upd.of_below HIW.out)
              exact ⟨j', h1, h2, Eq.trans (by go_num) h3, h4⟩
      · have HPY := Lib.hid (hpx.trans (if_neg fun h => hwh h.1))
        have hwf : d.whole = false := by simpa using hwh
        rw [hwf] at D4
        clear hpx hwh hwf
        refine region_by (fun W => Below w2.heap.size w2 W) [(fun v _ => v = .pointer (some ⟨gd, 4, none⟩)), (fun v _ => v = .bool false), (fun v _ => v = .bool false), (fun v _ => v = undef), (fun v _ => v = undef), (fun v _ => v = undef), (fun v _ => v = undef), (fun v _ => v = undef), (fun v _ => v = undef), (fun v _ => v = undef), (fun v _ => v = undef), (fun v _ => v = undef), (fun v _ => v = undef), (fun v _ => v = undef), (fun v _ => v = .bool false), (fun v _ => v = .bool false), (fun v _ => v = undef), (fun v _ => v = undef), (fun v _ => v = undef), (fun v _ => v = undef), (fun v _ => v = undef), (fun v _ => v = undef), (fun v _ => v = undef), (fun v _ => v = undef), (fun v _ => v = undef), (fun v _ => v = undef), (fun v _ => v = undef), (fun v _ => v = undef), (fun v _ => v = .bool false)] (by kernel_rfl) (by kernel_rfl) (by kernel_rfl) rfl ((Below.refl _ _).drew) ?ok3 ?fin3
        case ok3 =>
          refine ⟨?_, ?_, ?_, ?_, ?_, ?_, ?_, ?_, ?_, ?_, ?_, ?_, ?_, ?_, ?_, ?_, ?_, ?_, ?_, ?_, ?_, ?_, ?_, ?_, ?_, ?_, ?_, ?_, ?_, trivial⟩
          · intro a' w' K hI hd hq hK
            have e5 : a'.eval (.tmp 5) = .pointer (some ⟨gd, 0, none⟩) := (hq 5 (by kernel_rfl)).trans rfl
            clear hd hq
            refine op_value (wanted_free _ _ (by rfl)) (v := .pointer (some ⟨gd, 4, none⟩)) (w'' := w') ?_ (hK _ _ hI (fun _ _ h => h) rfl)
            clear hK
            simp only [execOp, e5]
            have f5 : a'.tmps[5]?.getD undef = .pointer (some ⟨gd, 0, none⟩) := (Array.getD_eq_getD_getElem? ..).symm.trans e5
            clear e5
            first | rfl | (go_simp <;> exact IntWalk.i64_in _ (by omega))
          · intro a' w' K hI hd hq hK
            have e17 : a'.eval (.tmp 17) = .pointer (some ⟨gd, 4, none⟩) := (hd 0 17 (by kernel_rfl))
            clear hd hq
            have cx := cell_below hI D4
            refine op_value (wanted_free _ _ (by rfl)) (v := .bool false) (w'' := w') ?_ (hK _ _ hI (fun _ _ h => h) rfl)
            clear hK
            simp only [execOp, e17]
            have f17 : a'.tmps[17]?.getD undef = .pointer (some ⟨gd, 4, none⟩) := (Array.getD_eq_getD_getElem? ..).symm.trans e17
            clear e17
            first | rfl | (go_simp <;> exact IntWalk.i64_in _ (by omega))
          · intro a' w' K hI hd hq hK
            have e18 : a'.eval (.tmp 18) = .bool false := (hd 1 18 (by kernel_rfl))
            clear hd hq
            refine op_value (wanted_free _ _ (by rfl)) (v := .bool false) (w'' := w') ?_ (hK _ _ hI (fun _ _ h => h) rfl)
            clear hK
            simp only [execOp, e18]
            have f18 : a'.tmps[18]?.getD undef = .bool false := (Array.getD_eq_getD_getElem? ..).symm.trans e18
            clear e18
            first | rfl | (go_simp <;> exact IntWalk.i64_in _ (by omega))
          · intro a' w' K hI hd hq hK
            have hg := hd 2 19 (by kernel_rfl)
            rw [if_neg (by rw [wanted_off _ a' 2 19 true (by rfl) (by rfl) hg]; decide)]
            exact hK _ _ hI (fun _ _ h => h) rfl
          · intro a' w' K hI hd hq hK
            have hg := hd 2 19 (by kernel_rfl)
            rw [if_neg (by rw [wanted_off _ a' 2 19 true (by rfl) (by rfl) hg]; decide)]
            exact hK _ _ hI (fun _ _ h => h) rfl
          · intro a' w' K hI hd hq hK
            have hg := hd 2 19 (by kernel_rfl)
            rw [if_neg (by rw [wanted_off _ a' 2 19 true (by rfl) (by rfl) hg]; decide)]
            exact hK _ _ hI (fun _ _ h => h) rfl
          · intro a' w' K hI hd hq hK
            have hg := hd 2 19 (by kernel_rfl)
            rw [if_neg (by rw [wanted_off _ a' 2 19 true (by rfl) (by rfl) hg]; decide)]
            exact hK _ _ hI (fun _ _ h => h) rfl
          · intro a' w' K hI hd hq hK
            have hg := hd 2 19 (by kernel_rfl)
            rw [if_neg (by rw [wanted_off _ a' 2 19 true (by rfl) (by rfl) hg]; decide)]
            exact hK _ _ hI (fun _ _ h => h) rfl
          · intro a' w' K hI hd hq hK
            have hg := hd 2 19 (by kernel_rfl)
            rw [if_neg (by rw [wanted_off _ a' 2 19 true (by rfl) (by rfl) hg]; decide)]
            exact hK _ _ hI (fun _ _ h => h) rfl
          · intro a' w' K hI hd hq hK
            have hg := hd 2 19 (by kernel_rfl)
            rw [if_neg (by rw [wanted_off _ a' 2 19 true (by rfl) (by rfl) hg]; decide)]
            exact hK _ _ hI (fun _ _ h => h) rfl
          · intro a' w' K hI hd hq hK
            have hg := hd 2 19 (by kernel_rfl)
            rw [if_neg (by rw [wanted_off _ a' 2 19 true (by rfl) (by rfl) hg]; decide)]
            exact hK _ _ hI (fun _ _ h => h) rfl
          · intro a' w' K hI hd hq hK
            have hg := hd 2 19 (by kernel_rfl)
            rw [if_neg (by rw [wanted_off _ a' 2 19 true (by rfl) (by rfl) hg]; decide)]
            exact hK _ _ hI (fun _ _ h => h) rfl
          · intro a' w' K hI hd hq hK
            have hg := hd 2 19 (by kernel_rfl)
            rw [if_neg (by rw [wanted_off _ a' 2 19 true (by rfl) (by rfl) hg]; decide)]
            exact hK _ _ hI (fun _ _ h => h) rfl
          · intro a' w' K hI hd hq hK
            have hg := hd 2 19 (by kernel_rfl)
            rw [if_neg (by rw [wanted_off _ a' 2 19 true (by rfl) (by rfl) hg]; decide)]
            exact hK _ _ hI (fun _ _ h => h) rfl
          · intro a' w' K hI hd hq hK
            have e19 : a'.eval (.tmp 19) = .bool false := (hd 2 19 (by kernel_rfl))
            have e30 : a'.eval (.tmp 30) = undef := (hd 13 30 (by kernel_rfl))
            clear hd hq
            refine op_value (wanted_free _ _ (by rfl)) (v := .bool false) (w'' := w') ?_ (hK _ _ hI (fun _ _ h => h) rfl)
            clear hK
            simp only [execOp, e19, e30]
            have f19 : a'.tmps[19]?.getD undef = .bool false := (Array.getD_eq_getD_getElem? ..).symm.trans e19
            have f30 : a'.tmps[30]?.getD undef = undef := (Array.getD_eq_getD_getElem? ..).symm.trans e30
            clear e19 e30
            first | rfl | (go_simp <;> exact IntWalk.i64_in _ (by omega))
          · intro a' w' K hI hd hq hK
            have e31 : a'.eval (.tmp 31) = .bool false := (hd 14 31 (by kernel_rfl))
            clear hd hq
            refine op_value (wanted_free _ _ (by rfl)) (v := .bool false) (w'' := w') ?_ (hK _ _ hI (fun _ _ h => h) rfl)
            clear hK
            simp only [execOp, e31]
            have f31 : a'.tmps[31]?.getD undef = .bool false := (Array.getD_eq_getD_getElem? ..).symm.trans e31
            clear e31
            first | rfl | (go_simp <;> exact IntWalk.i64_in _ (by omega))
          · intro a' w' K hI hd hq hK
            have hg := hd 15 32 (by kernel_rfl)
            rw [if_neg (by rw [wanted_off _ a' 15 32 true (by rfl) (by rfl) hg]; decide)]
            exact hK _ _ hI (fun _ _ h => h) rfl
          · intro a' w' K hI hd hq hK
            have hg := hd 15 32 (by kernel_rfl)
            rw [if_neg (by rw [wanted_off _ a' 15 32 true (by rfl) (by rfl) hg]; decide)]
            exact hK _ _ hI (fun _ _ h => h) rfl
          · intro a' w' K hI hd hq hK
            have hg := hd 15 32 (by kernel_rfl)
            rw [if_neg (by rw [wanted_off _ a' 15 32 true (by rfl) (by rfl) hg]; decide)]
            exact hK _ _ hI (fun _ _ h => h) rfl
          · intro a' w' K hI hd hq hK
            have hg := hd 15 32 (by kernel_rfl)
            rw [if_neg (by rw [wanted_off _ a' 15 32 true (by rfl) (by rfl) hg]; decide)]
            exact hK _ _ hI (fun _ _ h => h) rfl
          · intro a' w' K hI hd hq hK
            have hg := hd 15 32 (by kernel_rfl)
            rw [if_neg (by rw [wanted_off _ a' 15 32 true (by rfl) (by rfl) hg]; decide)]
            exact hK _ _ hI (fun _ _ h => h) rfl
          · intro a' w' K hI hd hq hK
            have hg := hd 15 32 (by kernel_rfl)
            rw [if_neg (by rw [wanted_off _ a' 15 32 true (by rfl) (by rfl) hg]; decide)]
            exact hK _ _ hI (fun _ _ h => h) rfl
          · intro a' w' K hI hd hq hK
            have hg := hd 15 32 (by kernel_rfl)
            rw [if_neg (by rw [wanted_off _ a' 15 32 true (by rfl) (by rfl) hg]; decide)]
            exact hK _ _ hI (fun _ _ h => h) rfl
          · intro a' w' K hI hd hq hK
            have hg := hd 15 32 (by kernel_rfl)
            rw [if_neg (by rw [wanted_off _ a' 15 32 true (by rfl) (by rfl) hg]; decide)]
            exact hK _ _ hI (fun _ _ h => h) rfl
          · intro a' w' K hI hd hq hK
            have hg := hd 15 32 (by kernel_rfl)
            rw [if_neg (by rw [wanted_off _ a' 15 32 true (by rfl) (by rfl) hg]; decide)]
            exact hK _ _ hI (fun _ _ h => h) rfl
          · intro a' w' K hI hd hq hK
            have hg := hd 15 32 (by kernel_rfl)
            rw [if_neg (by rw [wanted_off _ a' 15 32 true (by rfl) (by rfl) hg]; decide)]
            exact hK _ _ hI (fun _ _ h => h) rfl
          · intro a' w' K hI hd hq hK
            have hg := hd 15 32 (by kernel_rfl)
            rw [if_neg (by rw [wanted_off _ a' 15 32 true (by rfl) (by rfl) hg]; decide)]
            exact hK _ _ hI (fun _ _ h => h) rfl
          · intro a' w' K hI hd hq hK
            have hg := hd 15 32 (by kernel_rfl)
            rw [if_neg (by rw [wanted_off _ a' 15 32 true (by rfl) (by rfl) hg]; decide)]
            exact hK _ _ hI (fun _ _ h => h) rfl
          · intro a' w' K hI hd hq hK
            have e32 : a'.eval (.tmp 32) = .bool false := (hd 15 32 (by kernel_rfl))
            have e44 : a'.eval (.tmp 44) = undef := (hd 27 44 (by kernel_rfl))
            clear hd hq
            refine op_value (wanted_free _ _ (by rfl)) (v := .bool false) (w'' := w') ?_ (hK _ _ hI (fun _ _ h => h) rfl)
            clear hK
            simp only [execOp, e32, e44]
            have f32 : a'.tmps[32]?.getD undef = .bool false := (Array.getD_eq_getD_getElem? ..).symm.trans e32
            have f44 : a'.tmps[44]?.getD undef = undef := (Array.getD_eq_getD_getElem? ..).symm.trans e44
            clear e32 e44
            first | rfl | (go_simp <;> exact IntWalk.i64_in _ (by omega))
        case fin3 =>
          rintro w' hI _ rfl _ rfl _ rfl _ rfl _ rfl _ rfl _ rfl _ rfl _ rfl _ rfl _ rfl _ rfl _ rfl _ rfl _ rfl _ rfl _ rfl _ rfl _ rfl _ rfl _ rfl _ rfl _ rfl _ rfl _ rfl _ rfl _ rfl _ rfl _ rfl
          simp only [Act.put, List.setIfInBounds_toArray, List.set_cons_zero, List.set_cons_succ, FinGoal]
          have HIW := Lib.hid hI
          clear hI
          go_wp2_with fail
          go_roundg (i - (j + 1))
          case measure => have := HK.out; have := HLT.out; omega
          case rel =>
            obtain ⟨j', h1, h2, h3, h4⟩ := HR.out _ (by rw [HPY.out]; exact HV2.out.below HIW.out) (Upd.of_below HIW.out)
            exact ⟨j', h1, h2, Eq.trans (by go_num) h3, h4⟩
    · obtain rfl : j = i := by omega
      have HVF := Lib.hid hvf
      clear hk hu hvf hj hlt
      go_wp2_with fail
      go_end0
      exact ⟨rfl, HVF.out, HU.out⟩

end Go.Proofs.Ytjakhemolecbnaa
end

/-
  Claims in memory, and what the walk of Verify wants.
-/
section
set_option linter.unusedVariables false
set_option linter.unusedSimpArgs false
namespace Go.Proofs.Ytjakhemolecbnaa
open Go.RowKit

/-- A claim of one's own, as it lies in memory. -/
structure Cl where
  g : Int
  A : Option Addr
  c : Nat
  l : List UInt8
def Cl.cells (x : Cl) : List Value := [.int .i64 x.g, .slice x.A x.l.length x.c]
def clc (L : List Cl) : List Value := L.flatMap Cl.cells
theorem clc_length (l : List Cl) : (clc l).length = l.length * 2 := by
  induction l with
  | nil => rfl
  | cons m l ih =>
    have e : clc (m :: l) = m.cells ++ clc l := rfl
    rw [e, List.length_append, ih, List.length_cons]
    show 2 + l.length * 2 = _
    omega
theorem clc_append (l m : List Cl) : clc (l ++ m) = clc l ++ clc m := by simp [clc]
theorem clc_get (l : List Cl) (i : Nat) (c : Cl) (h : l[i]? = some c) (j : Nat) (hj : j < 2) : (clc l)[i * 2 + j]? = c.cells[j]? := by
  obtain ⟨hi, rfl⟩ := List.getElem?_eq_some_iff.1 h
  have h1 : l = l.take i ++ l[i] :: l.drop (i + 1) := by
    conv => lhs; rw [← List.take_append_drop i l, List.drop_eq_getElem_cons hi]
  have h2 : clc l = clc (l.take i) ++ (l[i].cells ++ clc (l.drop (i + 1))) := by
    refine (congrArg clc h1).trans ?_
    rw [clc_append]
    rfl
  have h3 : i * 2 = (clc (l.take i)).length := by rw [clc_length, List.length_take]; omega
  rw [h2, List.getElem?_append_right (by omega), ← h3, Nat.add_sub_cancel_left, List.getElem?_append_left (by show j < 2; exact hj)]
/-- A claim that was read, plain. -/
structure Cp where
  group : Int
  M : Lks
  lt : Bool
  recs : List Rp
  whole : Bool
  en : Int
def Cm.p (c : Cm) : Cp := ⟨c.group, c.M, c.lt, c.recs.map Rm.p, c.whole, c.en⟩
def claimP (g : Int) (l : List UInt8) : Cp := match decS l with
  | .inl x => ⟨g, [], false, [], false, x.2⟩
  | .inr M => ⟨g, M, true, (recsOf M).1, (recsOf M).2, if (recsOf M).2 then 0 else ((recsOf M).1.length : Int)⟩
theorem clS_p {g : Int} {l : List UInt8} {C : Cm} (h : clS g l C) : C.p = claimP g l := by
  unfold clS at h
  unfold claimP Cm.p
  obtain ⟨hg, h⟩ := h
  cases hd : decS l with
  | inl x =>
    rw [hd] at h
    obtain ⟨h1, h2, h3, h4, h5⟩ := h
    simp only [hg, h1, h2, h3, h4, h5, List.map_nil]
  | inr M =>
    rw [hd] at h
    obtain ⟨h1, h2, h3, h4, h5⟩ := h
    simp only [hg, h1, h2, h3, h4, h5]
def Cl.p (x : Cl) : Cp := claimP x.g x.l
/-- Claims that lie in memory. -/
structure ClsAt (w : World) (A : Option Addr) (L : List Cl) : Prop where
  r : RC w A (clc L)
  b : ∀ x ∈ L, RB w x.A x.l ∧ (x.A = none → x.c = 0) ∧ x.l.length ≤ 17000000
theorem ClsAt.below {w w' : World} {A : Option Addr} {L : List Cl} (h : ClsAt w A L) (hb : Below w.heap.size w w') : ClsAt w' A L := ⟨h.r.below hb, fun x hx => ⟨(h.b x hx).1.below hb, (h.b x hx).2⟩⟩

def FV (p : Nat) (v : Value) : Nat → Prop := fun k => v.ownBlock = some k ∨ k = p
def CFv (w : World) (p : Nat) (v : Value) (C : Cm) : Prop := ∀ k, FV p v k → CF w k C
theorem CF.upd {F : Nat → Prop} {w w' : World} {q : Nat} {c : Cm} (h : CF w q c) (hF : ∀ k, F k → CF w k c) (u : Upd F w w') : CF w' q c :=
  ⟨⟨h.rl.r.upd u (fun h0 ad e hk => (hF _ hk).rl.off h0 ad e rfl), h.rl.off⟩, ⟨h.rr.r.upd u (fun h0 ad e hk => (hF _ hk).rr.off h0 ad e rfl), h.rr.off⟩,
    fun m hm => ⟨⟨(h.rg m hm).1.r.upd u (fun h0 ad e hk => ((hF _ hk).rg m hm).1.off h0 ad e rfl), (h.rg m hm).1.off⟩, (h.rg m hm).2⟩, h.hh, h.ht, h.lM, h.lR, h.cr⟩
theorem CFv.upd {w w' : World} {p : Nat} {v : Value} {C : Cm} (h : CFv w p v C) (u : Upd (FV p v) w w') : CFv w' p v C := fun k hk => (h k hk).upd h u
theorem cell_lt {w : World} {ad : Addr} {v : Value} (h : w.cell? ad = some v) : ad.block < w.heap.size := by
  by_cases hb : ad.block < w.heap.size
  · exact hb
  · unfold World.cell? at h
    rw [Array.getElem?_eq_none (by omega)] at h
    simp at h
theorem RC.lt_size {w : World} {A : Option Addr} {l : List Value} (h : RC w A l) (h0 : 0 < l.length) (ad : Addr) (e : A = some ad) : ad.block < w.heap.size := by
  obtain ⟨b, o, e2, hc⟩ := RC.part h h0
  rw [e] at e2
  cases e2
  exact cell_lt (hc 0 _ (List.getElem?_eq_getElem h0))
theorem CF.fresh {w : World} {q k : Nat} {c : Cm} (h : CF w q c) (hk : w.heap.size ≤ k) : CF w k c :=
  ⟨⟨h.rl.r, fun h0 ad e => by have := h.rl.r.lt_size h0 ad e; omega⟩, ⟨h.rr.r, fun h0 ad e => by have := h.rr.r.lt_size h0 ad e; omega⟩,
    fun m hm => ⟨⟨(h.rg m hm).1.r, fun h0 ad e => by have := (h.rg m hm).1.r.lt_size h0 ad e; omega⟩, (h.rg m hm).2⟩, h.hh, h.ht, h.lM, h.lR, h.cr⟩
theorem infoClA : (Try.prog.info? 73).map (fun i => (i.zero, i.size, i.bytes)) = some (some (.agg clZ), 6, 80) := by kernel_rfl
theorem builtCl6 (g : Int) (lA : Option Addr) (ml lc : Nat) (lt : Bool) (rA : Option Addr) (rl rc : Nat) (wh : Bool) (en : Int) : Try.prog.builtSlice 73 1 [(0, .agg #[.int .i64 g, .slice lA ml lc, .bool lt, .slice rA rl rc, .bool wh, .int .i64 en])] = some #[.int .i64 g, .slice lA ml lc, .bool lt, .slice rA rl rc, .bool wh, .int .i64 en] := by kernel_rfl
theorem builtCl (C : Cm) : Try.prog.builtSlice 73 1 [(0, .agg C.cells.toArray)] = some C.cells.toArray := builtCl6 _ _ _ _ _ _ _ _ _ _

def V6 (p : Nat) (vl : Value) (x : Cl) (v : Value) (W : World) : Prop := ∃ C : Cm, v = .agg C.cells.toArray ∧ C.p = x.p ∧ CFv W p vl C
def V7 (p : Nat) (vl : Value) (x : Cl) (v : Value) (W : World) : Prop := ∃ (C : Cm) (g : Nat), v = .slice (some ⟨g, 0, none⟩) 1 1 ∧ RC W (some ⟨g, 0, none⟩) C.cells ∧ C.p = x.p ∧ CFv W p vl C ∧ ¬ FV p vl g
def V8 (p B : Nat) (cs : List Cm) (x : Cl) (v : Value) (W : World) : Prop := ∃ (C : Cm) (A : Option Addr) (c : Nat), v = .slice A (cs.length + 1) c ∧ cs.length + 1 ≤ c ∧ W.ownsRow B 73 6 v (cs.length + 1) (cmc (cs ++ [C])) ∧ C.p = x.p ∧ ∀ y ∈ cs ++ [C], CFv W p v y
theorem V6.upd {p : Nat} {vl : Value} {x : Cl} {v : Value} {W W' : World} (h : V6 p vl x v W) (u : Upd (FV p vl) W W') : V6 p vl x v W' := by
  obtain ⟨C, h1, h2, h3⟩ := h
  exact ⟨C, h1, h2, h3.upd u⟩
theorem V7.upd {p : Nat} {vl : Value} {x : Cl} {v : Value} {W W' : World} (h : V7 p vl x v W) (u : Upd (FV p vl) W W') : V7 p vl x v W' := by
  obtain ⟨C, g, h1, h2, h3, h4, h5⟩ := h
  exact ⟨C, g, h1, h2.upd u (fun _ ad e => by cases e; exact h5), h3, h4.upd u, h5⟩
theorem V8.upd {p B : Nat} {cs : List Cm} {x : Cl} {v : Value} {W W' : World} (h : V8 p B cs x v W) (u : Upd (fun k => k = p) W W') (hp : p < B) : V8 p B cs x v W' := by
  obtain ⟨C, A, c, h1, h2, h3, h4, h5⟩ := h
  refine ⟨C, A, c, h1, h2, own_upd h3 u (fun k hk e => by have := (World.ownsRow.lt h3 k hk).1; omega), h4, fun y hy => (h5 y hy).upd (u.mono (fun k _ hk => .inr hk))⟩
/-- What stands in the midst of the append. -/
structure VI (w : World) (p B : Nat) (vl : Value) (cs : List Cm) (l : Array Bool) (W : World) : Prop where
  upd : Upd (FV p vl) w W
  at_ : l.getD 11 false = false → VAt W p vl (0, 0, 0)
  own : l.getD 8 false = false → W.ownsRow B 73 6 vl cs.length (cmc cs)
theorem VI.set {w : World} {p B : Nat} {vl : Value} {cs : List Cm} {l : Array Bool} {W : World} (h : VI w p B vl cs l W) (j : Nat) : VI w p B vl cs (l.setIfInBounds j true) W := ⟨h.upd, fun hl => h.at_ (unset hl), fun hl => h.own (unset hl)⟩
theorem VAt.below {w w' : World} {p : Nat} {vl : Value} {b : Int × Int × Int} (h : VAt w p vl b) (hb : Below w.heap.size w w') : VAt w' p vl b := (hb.block p (Array.getElem?_eq_some_iff.1 h).1).trans h
theorem VI.grow {w : World} {p B : Nat} {vl : Value} {cs : List Cm} {l : Array Bool} {W W' : World} (h : VI w p B vl cs l W) (hb : Below W.heap.size W W') : VI w p B vl cs l W' :=
  ⟨h.upd.below hb, fun hl => (h.at_ hl).below hb, fun hl => own_below (h.own hl) hb⟩
theorem VAt.c0 {w : World} {p : Nat} {vl : Value} {b : Int × Int × Int} (h : VAt w p vl b) : w.cell? ⟨p, 0, none⟩ = some vl := (cell_of_row w p 0 _ _ _ h).trans rfl
theorem setTrue {l : Array Bool} {i : Nat} (h : i < l.size) : (l.setIfInBounds i true).getD i false = true := by
  rw [Array.getD_eq_getD_getElem?, Array.getElem?_setIfInBounds, if_pos rfl, if_pos h]
  rfl

end Go.Proofs.Ytjakhemolecbnaa
end

/-
  The rule by outline where some operations wait for later ones in a mode alone.
-/
section
set_option linter.unusedVariables false
set_option linter.unusedSimpArgs false
namespace Go.Proofs.Ytjakhemolecbnaa
open Go.RowKit
variable {P : Program} {ops : Array Oper} {Q : Exit → Act → World → Prop}

/-- Every operation waits, in any order, for earlier ones alone. -/
def backW (ops : Array Oper) : Bool :=
  (List.range ops.size).all fun i => match ops[i]? with
    | some o => o.after.all fun e => !Region.binds .any e || decide (e.on < i)
    | none => true

theorem acyc_of_backW (h : backW ops = true) : ∀ listed : Array Bool, listed.size = ops.size → Region.ready .any ops listed = [] → ∀ i, i < ops.size → listed.getD i false = true := by
  intro listed hl hr i
  induction i using Nat.strongRecOn with
  | _ i ih =>
    intro hi
    cases hx : listed.getD i false with
    | true => rfl
    | false =>
      exfalso
      have hil : i < listed.size := by rw [hl]; exact hi
      have hm : i ∈ Region.ready .any ops listed := by
        unfold Region.ready
        refine List.mem_filter.2 ⟨List.mem_range.2 hi, ?_⟩
        have ho : ops[i]? = some ops[i] := Array.getElem?_eq_getElem hi
        simp only [ho, Option.map_some, Option.getD_some, Bool.and_eq_true, Bool.not_eq_true']
        refine ⟨by simpa [Array.getD_eq_getD_getElem?, hil] using hx, ?_⟩
        rw [Array.all_eq_true_iff_forall_mem]
        intro e he
        have h1 := List.all_eq_true.1 h i (List.mem_range.2 hi)
        simp only [ho] at h1
        have h2 := Array.all_eq_true_iff_forall_mem.1 h1 e he
        have h2' : (!Region.binds .any e || decide (e.on < i)) = true := h2
        cases hbd : Region.binds .any e with
        | false => simp
        | true =>
          rw [hbd] at h2'
          have h3 : e.on < i := by simpa using h2'
          rw [ih e.on h3 (by omega)]
          simp
      rw [hr] at hm
      cases hm

/-- THE RULE. -/
theorem region_outlineW {id : Nat} {a : Act} {w : World} (I : Array Bool → World → Prop) (φ : Nat → Value → World → Prop) (hm : P.follows .mixedOrders = true)
    (hap : apartB ops a.tmps.size = true) (hback : backW ops = true) (hI : I (Array.replicate ops.size false) w.drew)
    (ok : ∀ i o, ops[i]? = some o → OpOk P ops Q a I φ i o)
    (fin : ∀ (l : Array Bool) (v : Nat → Value) (w' : World), l.size = ops.size → (∀ i, i < ops.size → l.getD i false = true) → I l w' → (∀ j, j < ops.size → φ j (v j) w') → Q .normal (fillFrom v ops.toList 0 a) w') : (Code.region id ops true).wp P Q a w := by
  refine wp_region_any hm ?_
  refine outline_walk (I := I) (φ := φ) hap ok ?_ (acyc_of_backW hback) ops.size _ _ _ ?_ ?_
  · intro listed a' w' h hall
    have hex : ∀ j, ∃ u, j < ops.size → φ j u w' ∧ ∀ o t, ops[j]? = some o → o.dst = some t → a'.tmps.getD t undef = u := by
      intro j
      by_cases hj : j < ops.size
      · have ho : ops[j]? = some ops[j] := Array.getElem?_eq_getElem hj
        cases hd : ops[j].dst with
        | none =>
          obtain ⟨u, hu⟩ := h.bare j _ ho (hall j hj) hd
          exact ⟨u, fun _ => ⟨hu, fun o t h1 h2 => by rw [ho] at h1; cases h1; rw [hd] at h2; cases h2⟩⟩
        | some t =>
          exact ⟨_, fun _ => ⟨h.has j _ t ho (hall j hj) hd, fun o t' h1 h2 => by rw [ho] at h1; cases h1; rw [hd] at h2; cases h2; rfl⟩⟩
      · exact ⟨undef, fun h => absurd h hj⟩
    have hv := fun j => Classical.choose_spec (hex j)
    have e : a' = fillFrom (fun j => Classical.choose (hex j)) ops.toList 0 a := by
      have hsz : a'.tmps = (fillFrom (fun j => Classical.choose (hex j)) ops.toList 0 a).tmps := by
        apply Array.ext
        · rw [fill_size, h.size]
        · intro t h1 h2
          have key : a'.tmps.getD t undef = (fillFrom (fun j => Classical.choose (hex j)) ops.toList 0 a).tmps.getD t undef := by
            by_cases hc : ∃ (j : Nat) (o : Oper), ops[j]? = some o ∧ o.dst = some t
            · obtain ⟨j, o, ho, hd⟩ := hc
              have hj : j < ops.size := (Array.getElem?_eq_some_iff.1 ho).1
              rw [fill_at _ t ops.toList 0 a j o (by simpa using ho) hd (apart_lt hap ho hd) (fun i o' hi hd' => apart_ne hap (by simpa using hi) ho hd' hd)]
              rw [Nat.zero_add]
              exact (hv j hj).2 o t ho hd
            · have hc' : ∀ (j : Nat) (o : Oper), ops[j]? = some o → o.dst ≠ some t := fun j o ho hd => hc ⟨j, o, ho, hd⟩
              rw [h.old t (fun j o ho _ => hc' j o ho), fill_other _ t ops.toList 0 a (fun o ho hd => by
                obtain ⟨i, hi⟩ := List.getElem?_of_mem ho
                exact hc' i o (by simpa using hi) hd)]
          rw [Array.getD_eq_getD_getElem?, Array.getD_eq_getD_getElem?, Array.getElem?_eq_getElem h1, Array.getElem?_eq_getElem h2] at key
          exact key
      have hdf : a'.defers = (fillFrom (fun j => Classical.choose (hex j)) ops.toList 0 a).defers := by rw [fill_defers, h.defers]
      cases a'
      cases hf : fillFrom (fun j => Classical.choose (hex j)) ops.toList 0 a
      rw [hf] at hsz hdf
      cases hsz
      cases hdf
      rfl
    rw [e]
    exact fin _ _ w' h.len hall h.inv (fun j hj => (hv j hj).1)
  · refine ⟨hI, rfl, rfl, by simp, ?_, ?_, ?_, ?_⟩
    · intro j o hj hl
      simp [Array.getD_eq_getD_getElem?, Array.getElem?_replicate] at hl
      split at hl <;> simp at hl
    · intro j o t hj hl
      simp [Array.getD_eq_getD_getElem?, Array.getElem?_replicate] at hl
      split at hl <;> simp at hl
    · intro j o hj hl
      simp [Array.getD_eq_getD_getElem?, Array.getElem?_replicate] at hl
      split at hl <;> simp at hl
    · intro t _
      rfl
  · simp

theorem region_byLW {id : Nat} {a : Act} {w : World} (I : Array Bool → World → Prop) (L : List (Value → World → Prop)) (hm : P.follows .mixedOrders = true)
    (hap : apartB ops a.tmps.size = true) (hback : backW ops = true) (hlen : L.length = ops.toList.length) (hI : I (Array.replicate ops.size false) w.drew)
    (ok : OkAll P ops Q a I L ops.toList 0) (fin : ∀ l w', l.size = ops.size → (∀ i, i < ops.size → l.getD i false = true) → I l w' → FinGoal Q w' L ops.toList a) : (Code.region id ops true).wp P Q a w := by
  refine region_outlineW I (nth L) hm hap hback hI (fun i o h => ?_) (fun l v w' hl1 hl2 hI' hv => ?_)
  · have := ok_all ops.toList 0 ok i o (by simpa using h)
    rwa [Nat.zero_add] at this
  · exact fin_goal v L ops.toList 0 a hlen (fin l w' hl1 hl2 hI') (fun j hj => by rw [Nat.zero_add]; exact hv j (by simpa using hj))

theorem region_byW {id : Nat} {a : Act} {w : World} (I : World → Prop) (L : List (Value → World → Prop)) (hm : P.follows .mixedOrders = true)
    (hap : apartB ops a.tmps.size = true) (hback : backW ops = true) (hlen : L.length = ops.toList.length) (hI : I w.drew)
    (ok : OkAll1 P ops Q a I L ops.toList 0) (fin : ∀ w', I w' → FinGoal Q w' L ops.toList a) : (Code.region id ops true).wp P Q a w :=
  region_byLW (fun _ w' => I w') L hm hap hback hlen hI (ok_of_1 ops.toList 0 ok) (fun _ w' _ _ hI' => fin w' hI')


end Go.Proofs.Ytjakhemolecbnaa
end
