/-
  The texts AuditReads of this proof in one: what each proves is said at its head. No conditions beyond those that each theorem says.
-/
import Derived.Deep.CutBlock
import Derived.Test.YtjakhemolecbnaaMI
import Derived.Test.YtjakhemolecbnaaMG

/-
  The law AuditReads: records are written and read as the document says, for any records and texts (texts of moderate size).
-/
section
set_option linter.unusedVariables false
set_option linter.unusedSimpArgs false
namespace Go.Proofs.Ytjakhemolecbnaa
open Go.RowKit

theorem extract_eq (l : List UInt8) (k : Nat) : (strB l).extract 0 k = strB (l.take k) := by
  have h := ByteArray.extract_mk (strB l).data.toList 0 k
  rw [data_eq] at h
  simpa [strB] using h

set_option maxRecDepth 100000 in
set_option maxHeartbeats 8000000 in
theorem auditReads_any (m : Rm) (s : List UInt8) (w : World) (h : RmIn w m) (ht : m.tx.length ≤ 1500000) (hbd : m.body.length ≤ 1500000) (hs : s.length ≤ 140737488351232) :
    Calls Try.prog 7 #[.agg m.cells.toArray, .string (strB s)] w fun e w' => e = .returned (.bool true) ∧ Below w.heap.size w w' := by
  obtain ⟨mk, mt, mA, mc, mg, mb⟩ := m
  have hbx := box_new w (⟨mk, mt, mA, mc, mg, mb⟩ : Rm)
  have hb1 : Below w.heap.size w (w.alloc (.cells (⟨mk, mt, mA, mc, mg, mb⟩ : Rm).cells.toArray 24)) := (Below.refl _ _).alloc (Nat.le_refl _) _
  obtain ⟨w1, hw1⟩ : ∃ w1, w1 = w.alloc (.cells (⟨mk, mt, mA, mc, mg, mb⟩ : Rm).cells.toArray 24) := ⟨_, rfl⟩
  rw [← hw1] at hbx hb1
  obtain ⟨gb, hgb⟩ : ∃ gb, gb = w.heap.size := ⟨_, rfl⟩
  rw [← hgb] at hbx
  have HT := Lib.hid (show mt.length ≤ 1500000 from ht)
  have HBD := Lib.hid (show mb.length ≤ 1500000 from hbd)
  have HGC := Lib.hid (show mg.length ≤ mc from h.gc)
  have HG1 := Lib.hid (show RG w1 mA mg from h.g.below hb1)
  have HGL := Lib.hid (show mg.length * 8 ≤ 140737488351232 from h.gl)
  have HMA := Lib.hid (show 0 < mg.length → ∀ ad, mA = some ad → ad.block ≠ gb from fun h0 ad e hk => by
    have := RC.lt_size (show RC w mA (mg.map (Value.int .i64)) from h.g) (by simpa using h0) ad e
    omega)
  have HB1 := Lib.hid hb1
  have HW1 := Lib.hid hw1
  have HGB := Lib.hid hgb
  have HBX := Lib.hid hbx
  have HS := Lib.hid hs
  clear hbx hb1 hw1 hgb h ht hbd hs
  go_enter Try.func7, Try.ntmps7
  go_upto_region 1 with fail
  rw [show w.alloc (.cells (⟨mk, mt, mA, mc, mg, mb⟩ : Rm).cells.toArray 24) = w1 from HW1.out.symm, ← HGB.out]
  unfold Rm.cells
  dsimp only
  have g2 : w1.cell? ⟨gb, 2, none⟩ = some (.slice mA mg.length mc) := (cell_of_row w1 gb 2 _ _ _ HBX.out).trans rfl
  have fr2 := frozen_of_row w1 gb 2 _ _ HBX.out
  have hml : (mg.length : Int) ≤ 9000000000000000000 := by have := HGL.out; omega
  have hmc : (mg.length : Int) ≤ (mc : Int) := by have := HGC.out; omega
  go_upto_if 16 with fail
  go_cut [] (fun wx => ∃ zs : List Int, zs.length ≤ 10 ∧ RecAt wx gb 24 ⟨mk, mt, zs, mb⟩ mA mc ∧ Below w.heap.size w wx)
  case first =>
    by_cases h10 : 10 < mg.length
    · have hi10 : (10 : Int) < (mg.length : Int) := by omega
      have hc10 : (10 : Int) ≤ (mc : Int) := by omega
      have hx2 : (w1.setCell ⟨gb, 2, none⟩ (.slice mA 10 mc)).heap[gb]? = some (.cells #[.int .i64 mk, .string (strB mt), .slice mA 10 mc, .string (strB mb)] 24 (0, 0)) := by
        rw [setCell_at HBX.out _]
        rfl
      have hu2 : Upd (fun k => k = gb) w1 (w1.setCell ⟨gb, 2, none⟩ (.slice mA 10 mc)) := (Upd.refl (fun k => k = gb) w1).setCell (p := ⟨gb, 2, none⟩) (fun _ => rfl) _
      have HX2 := Lib.hid hx2
      have HU2 := Lib.hid hu2
      have H10 := Lib.hid h10
      clear hx2 hu2 h10
      go_wp2_with fail
      go_meet
      have hlz : (mg.take 10).length = 10 := by rw [List.length_take]; have := H10.out; omega
      refine ⟨mg.take 10, Nat.le_of_eq hlz, ⟨?_, ?_⟩, below_upd HB1.out HB1.out.size HU2.out (fun k hk => by rw [hk, HGB.out]; exact Nat.le_refl _)⟩
      · show _ = some (Obj.cells #[.int .i64 mk, .string (strB mt), .slice mA (mg.take 10).length mc, .string (strB mb)] _ _)
        rw [hlz]
        exact HX2.out
      · have h1 : RC w1 mA ((mg.take 10).map (Value.int .i64)) := by
          rw [List.map_take]
          exact RC_take HG1.out 10
        exact RC.upd h1 HU2.out (fun h0 ad e hk => HMA.out (by have := H10.out; omega) ad e hk)
    · have hi10 : ¬ ((10 : Int) < (mg.length : Int)) := by omega
      have H10 := Lib.hid (show mg.length ≤ 10 by omega)
      clear h10
      go_wp2_with fail
      go_meet
      exact ⟨mg, H10.out, ⟨HBX.out, HG1.out⟩, HB1.out⟩
  case rest =>
    obtain ⟨zs, hz, hra, hb⟩ := hcut
    have HZ := Lib.hid hz
    have HRA := Lib.hid hra
    have HB := Lib.hid hb
    clear hz hra hb g2 fr2 HBX HG1 HGL HGC HB1 hml hmc
    rename World => wa
    obtain ⟨z0, hz0⟩ : ∃ z0, z0 = strB s := ⟨_, rfl⟩
    rw [← hz0]
    have hzs : (z0.size : Int) ≤ 140737488351232 := by rw [hz0, strB_size]; have := HS.out; omega
    have HZ0 := Lib.hid hz0
    clear hz0
    go_upto_if 23 with fail
    go_cut [1] (fun s1 wx => ∃ l : List UInt8, s1 = .string (strB l) ∧ l.length ≤ 300 ∧ wx = wa)
    case first =>
      by_cases h3 : 300 < z0.size
      · have hi3 : (300 : Int) < (z0.size : Int) := by omega
        have hi4 : (300 : Int) ≤ (z0.size : Int) := by omega
        clear h3
        go_wp2_with fail
        go_meet
        exact ⟨s.take 300, by rw [HZ0.out, extract_eq], by rw [List.length_take]; omega, rfl⟩
      · have hi3 : ¬ ((300 : Int) < (z0.size : Int)) := by omega
        have H3 := Lib.hid (show s.length ≤ 300 by rw [HZ0.out, strB_size] at h3; omega)
        clear h3
        go_wp2_with fail
        go_meet
        exact ⟨s, by rw [HZ0.out], H3.out, rfl⟩
    case rest =>
      obtain ⟨l, rfl, hl, hwx⟩ := hcut
      subst hwx
      have HL := Lib.hid hl
      clear hl hzs HZ0
      rename World => wa
      obtain ⟨⟨k1, t1, y1, b1⟩, ec, er⟩ : ∃ r ec, resR l = (r, ec) := ⟨_, _, rfl⟩
      have hy1 := resR_groups l
      rw [er] at hy1
      dsimp only at hy1
      have HY1 := Lib.hid hy1
      have ER := Lib.hid er
      clear hy1 er
      go_wp2_with fail
      refine (read_r l _ (by have := HL.out; omega)).mono ?_
      rw [ER.out]
      rintro e w2 ⟨A2, c2, rfl, hb2, hg2⟩
      unfold Rp.m Rm.cells
      dsimp only at hg2 ⊢
      have hb3 : Below w2.heap.size w2 (w2.alloc (.cells #[.int .i64 k1, .string (strB t1), .slice A2 y1.length c2, .string (strB b1)] 24)) := (Below.refl _ _).alloc (Nat.le_refl _) _
      have hx3 := heap_alloc_new w2 (.cells #[.int .i64 k1, .string (strB t1), .slice A2 y1.length c2, .string (strB b1)] 24)
      obtain ⟨w3, hw3⟩ : ∃ w3, w3 = w2.alloc (.cells #[.int .i64 k1, .string (strB t1), .slice A2 y1.length c2, .string (strB b1)] 24) := ⟨_, rfl⟩
      rw [← hw3] at hb3 hx3
      obtain ⟨n2, hn2⟩ : ∃ n2, n2 = w2.heap.size := ⟨_, rfl⟩
      rw [← hn2] at hx3
      have R3 := Lib.hid (show RecAt w3 n2 24 ⟨k1, t1, y1, b1⟩ A2 c2 from ⟨hx3, hg2.below hb3⟩)
      have B3 := Lib.hid (below_below hb2 hb2.size hb3)
      have HW3 := Lib.hid hw3
      have HN2 := Lib.hid hn2
      clear hb2 hg2 hb3 hx3 hw3 hn2
      go_upto_region 6 with fail
      rw [show w2.alloc (.cells #[.int .i64 k1, .string (strB t1), .slice A2 y1.length c2, .string (strB b1)] 24) = w3 from HW3.out.symm, ← HN2.out]
      go_wp2_with fail
      refine (refRead_r l w3 (by have := HL.out; omega)).mono ?_
      rw [ER.out]
      rintro e w4 ⟨A4, c4, rfl, hb4, hg4⟩
      unfold Rp.m Rm.cells
      dsimp only at hg4 ⊢
      have hb5 : Below w4.heap.size w4 (w4.alloc (.cells #[.int .i64 k1, .string (strB t1), .slice A4 y1.length c4, .string (strB b1)] 55)) := (Below.refl _ _).alloc (Nat.le_refl _) _
      have hx5 := heap_alloc_new w4 (.cells #[.int .i64 k1, .string (strB t1), .slice A4 y1.length c4, .string (strB b1)] 55)
      obtain ⟨w5, hw5⟩ : ∃ w5, w5 = w4.alloc (.cells #[.int .i64 k1, .string (strB t1), .slice A4 y1.length c4, .string (strB b1)] 55) := ⟨_, rfl⟩
      rw [← hw5] at hb5 hx5
      obtain ⟨n4, hn4⟩ : ∃ n4, n4 = w4.heap.size := ⟨_, rfl⟩
      rw [← hn4] at hx5
      have b35 := below_below hb4 hb4.size hb5
      have R5 := Lib.hid (show RecAt w5 n4 55 ⟨k1, t1, y1, b1⟩ A4 c4 from ⟨hx5, hg4.below hb5⟩)
      have R35 := Lib.hid (R3.out.below b35)
      have B5 := Lib.hid (below_below B3.out B3.out.size b35)
      have RA5 := Lib.hid (HRA.out.below B5.out)
      have HW5 := Lib.hid hw5
      have HN4 := Lib.hid hn4
      clear hb4 hg4 hb5 hx5 hw5 hn4 b35
      go_upto_region 7 with fail
      rw [show w4.alloc (.cells #[.int .i64 k1, .string (strB t1), .slice A4 y1.length c4, .string (strB b1)] 55) = w5 from HW5.out.symm, ← HN4.out]
      obtain ⟨T, hTT⟩ : ∃ T, T = txtOf ⟨mk, mt, zs, mb⟩ := ⟨_, rfl⟩
      have HTL := Lib.hid (show T.length ≤ 4000000 by rw [hTT, txtOf_length]; have := HT.out; have := HBD.out; have := HZ.out; simp only []; omega)
      obtain ⟨⟨k6, t6, y6, b6⟩, ed, es⟩ : ∃ r ec, resR T = (r, ec) := ⟨_, _, rfl⟩
      have hy6 := resR_groups T
      rw [es] at hy6
      dsimp only at hy6
      have HY6 := Lib.hid hy6
      have ES := Lib.hid es
      have HTT := Lib.hid hTT
      clear hy6 es hTT
      have HRT := Lib.hid (show ∀ (W : World), RG W mA zs → Calls Try.prog 21 #[.agg #[.int .i64 mk, .string (strB mt), .slice mA zs.length mc, .string (strB mb)]] W fun e w' => e = .returned (.string (strB T)) ∧ Below W.heap.size W w' from fun W hW => by
        rw [HTT.out]
        exact refText20_any ⟨mk, mt, mA, mc, zs, mb⟩ W hW HT.out (by have := HZ.out; simp only []; omega) HBD.out)
      have HAT := Lib.hid (show ∀ (W : World), RG W mA zs → Calls Try.prog 23 #[.agg #[.int .i64 mk, .string (strB mt), .slice mA zs.length mc, .string (strB mb)]] W fun e w' => e = .returned (.string (strB T)) ∧ Below W.heap.size W w' from fun W hW => by
        rw [HTT.out]
        exact auditText_any ⟨mk, mt, mA, mc, zs, mb⟩ W hW HT.out (by have := HZ.out; simp only []; omega) HBD.out)
      have HRC := Lib.hid (show ∀ (W : World), Calls Try.prog 22 #[.agg #[.int .i64 mk, .string (strB mt), .slice mA zs.length mc, .string (strB mb)]] W fun e w' => e = .returned (.agg #[.int .i64 mk, .string (strB mt), .slice mA zs.length mc, .string (strB mb)]) ∧ Below W.heap.size W w' from fun W => rec_any ⟨mk, mt, mA, mc, zs, mb⟩ W)
      obtain ⟨g0, g1, g2, g3⟩ := RA5.out.c
      dsimp only at g0 g1 g2 g3
      go_wp2_with fail
      refine (HRC.out w5).mono ?_
      rintro e w6 ⟨rfl, hb6⟩
      have RA6 := Lib.hid (RA5.out.below hb6)
      have B56 := Lib.hid hb6
      clear hb6
      go_wp2_with fail
      refine (HRT.out w6 RA6.out.rg).mono ?_
      rintro e w7 ⟨rfl, hb7⟩
      have B57 := Lib.hid (below_below B56.out B56.out.size hb7)
      clear hb7
      go_wp2_with fail
      refine (read_r T w7 (by have := HTL.out; omega)).mono ?_
      rw [ES.out]
      rintro e w8 ⟨A8, c8, rfl, hb8, hg8⟩
      unfold Rp.m Rm.cells
      dsimp only at hg8 ⊢
      have hb9 : Below w8.heap.size w8 (w8.alloc (.cells #[.int .i64 k6, .string (strB t6), .slice A8 y6.length c8, .string (strB b6)] 24)) := (Below.refl _ _).alloc (Nat.le_refl _) _
      have hx9 := heap_alloc_new w8 (.cells #[.int .i64 k6, .string (strB t6), .slice A8 y6.length c8, .string (strB b6)] 24)
      obtain ⟨w9, hw9⟩ : ∃ w9, w9 = w8.alloc (.cells #[.int .i64 k6, .string (strB t6), .slice A8 y6.length c8, .string (strB b6)] 24) := ⟨_, rfl⟩
      rw [← hw9] at hb9 hx9
      obtain ⟨n8, hn8⟩ : ∃ n8, n8 = w8.heap.size := ⟨_, rfl⟩
      rw [← hn8] at hx9
      have B59 := Lib.hid (below_below B57.out B57.out.size (below_below hb8 hb8.size hb9))
      have R9 := Lib.hid (show RecAt w9 n8 24 ⟨k6, t6, y6, b6⟩ A8 c8 from ⟨hx9, hg8.below hb9⟩)
      have RA9 := Lib.hid (RA5.out.below B59.out)
      have HW9 := Lib.hid hw9
      have HN8 := Lib.hid hn8
      clear hb8 hg8 hb9 hx9 hw9 hn8 g0 g1 g2 g3
      go_upto_region 8 with fail
      rw [show w8.alloc (.cells #[.int .i64 k6, .string (strB t6), .slice A8 y6.length c8, .string (strB b6)] 24) = w9 from HW9.out.symm, ← HN8.out]
      obtain ⟨g0, g1, g2, g3⟩ := RA9.out.c
      dsimp only at g0 g1 g2 g3
      go_wp2_with fail
      refine (HRC.out w9).mono ?_
      rintro e wA ⟨rfl, hbA⟩
      have RAA := Lib.hid (RA9.out.below hbA)
      have B9A := Lib.hid hbA
      clear hbA
      go_wp2_with fail
      refine (HRT.out wA RAA.out.rg).mono ?_
      rintro e wB ⟨rfl, hbB⟩
      have B9B := Lib.hid (below_below B9A.out B9A.out.size hbB)
      clear hbB
      go_wp2_with fail
      refine (refRead_r T wB (by have := HTL.out; omega)).mono ?_
      rw [ES.out]
      rintro e wC ⟨AC, cC, rfl, hbC, hgC⟩
      unfold Rp.m Rm.cells
      dsimp only at hgC ⊢
      have hbD : Below wC.heap.size wC (wC.alloc (.cells #[.int .i64 k6, .string (strB t6), .slice AC y6.length cC, .string (strB b6)] 55)) := (Below.refl _ _).alloc (Nat.le_refl _) _
      have hxD := heap_alloc_new wC (.cells #[.int .i64 k6, .string (strB t6), .slice AC y6.length cC, .string (strB b6)] 55)
      obtain ⟨wD, hwD⟩ : ∃ wD, wD = wC.alloc (.cells #[.int .i64 k6, .string (strB t6), .slice AC y6.length cC, .string (strB b6)] 55) := ⟨_, rfl⟩
      rw [← hwD] at hbD hxD
      obtain ⟨nC, hnC⟩ : ∃ nC, nC = wC.heap.size := ⟨_, rfl⟩
      rw [← hnC] at hxD
      have B9D := Lib.hid (below_below B9B.out B9B.out.size (below_below hbC hbC.size hbD))
      have RD := Lib.hid (show RecAt wD nC 55 ⟨k6, t6, y6, b6⟩ AC cC from ⟨hxD, hgC.below hbD⟩)
      have R9D := Lib.hid (R9.out.below B9D.out)
      have RAD := Lib.hid (RA9.out.below B9D.out)
      have B5D := Lib.hid (below_below B59.out B59.out.size B9D.out)
      have R3D := Lib.hid (R35.out.below B5D.out)
      have R5D := Lib.hid (R5.out.below B5D.out)
      have BZ := Lib.hid (below_below HB.out HB.out.size (below_below B5.out B5.out.size B5D.out))
      have HWD := Lib.hid hwD
      have HNC := Lib.hid hnC
      clear hbC hgC hbD hxD hwD hnC g0 g1 g2 g3
      go_upto_region 9 with fail
      rw [show wC.alloc (.cells #[.int .i64 k6, .string (strB t6), .slice AC y6.length cC, .string (strB b6)] 55) = wD from HWD.out.symm, ← HNC.out]
      have KA := Lib.hid (fun W (hW : Below wD.heap.size wD W) => (RAD.out.below hW).c)
      have RGA := Lib.hid (fun W (hW : Below wD.heap.size wD W) => (RAD.out.below hW).rg)
      have K2 := Lib.hid (fun W (hW : Below wD.heap.size wD W) => (R3D.out.below hW).c)
      have RG2 := Lib.hid (fun W (hW : Below wD.heap.size wD W) => (R3D.out.below hW).rg)
      have K4 := Lib.hid (fun W (hW : Below wD.heap.size wD W) => (R5D.out.below hW).c)
      have RG4 := Lib.hid (fun W (hW : Below wD.heap.size wD W) => (R5D.out.below hW).rg)
      have K8 := Lib.hid (fun W (hW : Below wD.heap.size wD W) => (R9D.out.below hW).c)
      have RG8 := Lib.hid (fun W (hW : Below wD.heap.size wD W) => (R9D.out.below hW).rg)
      have KC := Lib.hid (fun W (hW : Below wD.heap.size wD W) => (RD.out.below hW).c)
      have RGC := Lib.hid (fun W (hW : Below wD.heap.size wD W) => (RD.out.below hW).rg)
      dsimp only at KA K2 K4 K8 KC RGA RG2 RG4 RG8 RGC
      clear RAD R3D R5D R9D RD RAA RA9 R9 R35 R5 R3 RA5 RA6 HRA
      generalize strB T = zT at *
      generalize strB mt = zmt at *
      generalize strB mb = zmb at *
      generalize strB t1 = z1 at *
      generalize strB b1 = z2 at *
      generalize strB t6 = z3 at *
      generalize strB b6 = z4 at *
      refine region_by (fun W => Below wD.heap.size wD W) [(fun v _ => v = .agg #[.int .i64 mk, .string zmt, .slice mA zs.length mc, .string zmb]), fun v _ => v = .string zT, (fun v _ => v = .agg #[.int .i64 mk, .string zmt, .slice mA zs.length mc, .string zmb]), fun v _ => v = .agg #[.int .i64 mk, .string zmt, .slice mA zs.length mc, .string zmb], fun v _ => v = .string zT, (fun v _ => v = (.bool true)), (fun v _ => v = (.bool true)), (fun v _ => v = .agg #[.int .i64 k1, .string z1, .slice A2 y1.length c2, .string z2]), (fun v _ => v = .agg #[.int .i64 k1, .string z1, .slice A4 y1.length c4, .string z2]), fun v _ => v = .bool true, (fun v _ => v = (.bool true)), (fun v _ => v = (.bool true)), (fun v _ => v = .int .i64 ec), (fun v _ => v = .int .i64 ec), (fun v _ => v = (.bool true)), (fun v _ => v = (.bool true)), (fun v _ => v = (.bool true)), (fun v _ => v = .agg #[.int .i64 k6, .string z3, .slice A8 y6.length c8, .string z4]), (fun v _ => v = .agg #[.int .i64 k6, .string z3, .slice AC y6.length cC, .string z4]), fun v _ => v = .bool true, (fun v _ => v = (.bool true)), (fun v _ => v = (.bool true)), (fun v _ => v = .int .i64 ed), (fun v _ => v = .int .i64 ed), (fun v _ => v = (.bool true)), (fun v _ => v = (.bool true)), (fun v _ => v = (.bool true)), fun v _ => v = .bool true, (fun v _ => v = (.bool true)), (fun v _ => v = (.bool true))] (by kernel_rfl) (by kernel_rfl) (by kernel_rfl) rfl ((Below.refl _ _).drew) ?ok9 ?fin9
      case ok9 =>
        refine ⟨?_, ?_, ?_, ?_, ?_, ?_, ?_, ?_, ?_, ?_, ?_, ?_, ?_, ?_, ?_, ?_, ?_, ?_, ?_, ?_, ?_, ?_, ?_, ?_, ?_, ?_, ?_, ?_, ?_, ?_, trivial⟩
        · intro a' w' K hI hd hq hK
          have e2 : a'.eval (.tmp 2) = .pointer (some ⟨gb, 0, none⟩) := (hq 2 (by kernel_rfl)).trans rfl
          clear hd hq
          obtain ⟨g0, g1, g2, g3⟩ := KA.out _ hI
          refine op_value (wanted_free _ _ (by rfl)) (v := .agg #[.int .i64 mk, .string zmt, .slice mA zs.length mc, .string zmb]) (w'' := w') ?_ (hK _ _ hI (fun _ _ h => h) rfl)
          clear hK
          simp only [execOp, e2]
          have f2 : a'.tmps[2]?.getD undef = .pointer (some ⟨gb, 0, none⟩) := (Array.getD_eq_getD_getElem? ..).symm.trans e2
          clear e2
          first | rfl | (go_simp <;> exact IntWalk.i64_in _ (by omega))
        · intro a' w' K hI hd hq hK
          have e50 : a'.eval (.tmp 50) = .agg #[.int .i64 mk, .string zmt, .slice mA zs.length mc, .string zmb] := (hd 0 50 (by kernel_rfl))
          clear hd hq
          refine op_call #[.agg #[.int .i64 mk, .string zmt, .slice mA zs.length mc, .string zmb]] (wanted_free _ _ (by rfl)) rfl Try.func23 (by kernel_rfl) rfl (by simp [e50]) ?_
          refine (HAT.out w' (RGA.out _ hI)).mono ?_
          rintro e w6 ⟨rfl, hb⟩
          exact ⟨_, rfl, hK _ _ (below_below hI hI.size hb) (fun j u => by match j with | 0 | 1 | 2 | 3 | 4 | 5 | 6 | 7 | 8 | 9 | 10 | 11 | 12 | 13 | 14 | 15 | 16 | 17 | 18 | 19 | 20 | 21 | 22 | 23 | 24 | 25 | 26 | 27 | 28 | 29 => exact fun h => h | _ + 30 => exact fun _ => trivial) rfl⟩
        · intro a' w' K hI hd hq hK
          have e2 : a'.eval (.tmp 2) = .pointer (some ⟨gb, 0, none⟩) := (hq 2 (by kernel_rfl)).trans rfl
          clear hd hq
          obtain ⟨g0, g1, g2, g3⟩ := KA.out _ hI
          refine op_value (wanted_free _ _ (by rfl)) (v := .agg #[.int .i64 mk, .string zmt, .slice mA zs.length mc, .string zmb]) (w'' := w') ?_ (hK _ _ hI (fun _ _ h => h) rfl)
          clear hK
          simp only [execOp, e2]
          have f2 : a'.tmps[2]?.getD undef = .pointer (some ⟨gb, 0, none⟩) := (Array.getD_eq_getD_getElem? ..).symm.trans e2
          clear e2
          first | rfl | (go_simp <;> exact IntWalk.i64_in _ (by omega))
        · intro a' w' K hI hd hq hK
          have e52 : a'.eval (.tmp 52) = .agg #[.int .i64 mk, .string zmt, .slice mA zs.length mc, .string zmb] := (hd 2 52 (by kernel_rfl))
          clear hd hq
          refine op_call #[.agg #[.int .i64 mk, .string zmt, .slice mA zs.length mc, .string zmb]] (wanted_free _ _ (by rfl)) rfl Try.func22 (by kernel_rfl) rfl (by simp [e52]) ?_
          refine (HRC.out w').mono ?_
          rintro e w6 ⟨rfl, hb⟩
          exact ⟨_, rfl, hK _ _ (below_below hI hI.size hb) (fun j u => by match j with | 0 | 1 | 2 | 3 | 4 | 5 | 6 | 7 | 8 | 9 | 10 | 11 | 12 | 13 | 14 | 15 | 16 | 17 | 18 | 19 | 20 | 21 | 22 | 23 | 24 | 25 | 26 | 27 | 28 | 29 => exact fun h => h | _ + 30 => exact fun _ => trivial) rfl⟩
        · intro a' w' K hI hd hq hK
          have e53 : a'.eval (.tmp 53) = .agg #[.int .i64 mk, .string zmt, .slice mA zs.length mc, .string zmb] := (hd 3 53 (by kernel_rfl))
          clear hd hq
          refine op_call #[.agg #[.int .i64 mk, .string zmt, .slice mA zs.length mc, .string zmb]] (wanted_free _ _ (by rfl)) rfl Try.func21 (by kernel_rfl) rfl (by simp [e53]) ?_
          refine (HRT.out w' (RGA.out _ hI)).mono ?_
          rintro e w6 ⟨rfl, hb⟩
          exact ⟨_, rfl, hK _ _ (below_below hI hI.size hb) (fun j u => by match j with | 0 | 1 | 2 | 3 | 4 | 5 | 6 | 7 | 8 | 9 | 10 | 11 | 12 | 13 | 14 | 15 | 16 | 17 | 18 | 19 | 20 | 21 | 22 | 23 | 24 | 25 | 26 | 27 | 28 | 29 => exact fun h => h | _ + 30 => exact fun _ => trivial) rfl⟩
        · intro a' w' K hI hd hq hK
          have e51 : a'.eval (.tmp 51) = .string zT := (hd 1 51 (by kernel_rfl))
          have e54 : a'.eval (.tmp 54) = .string zT := (hd 4 54 (by kernel_rfl))
          clear hd hq
          refine op_value (wanted_free _ _ (by rfl)) (v := (.bool true)) (w'' := w') ?_ (hK _ _ hI (fun _ _ h => h) rfl)
          clear hK
          simp only [execOp, e51, e54]
          have f51 : a'.tmps[51]?.getD undef = .string zT := (Array.getD_eq_getD_getElem? ..).symm.trans e51
          have f54 : a'.tmps[54]?.getD undef = .string zT := (Array.getD_eq_getD_getElem? ..).symm.trans e54
          clear e51 e54
          first | rfl | (go_simp <;> exact IntWalk.i64_in _ (by omega))
        · intro a' w' K hI hd hq hK
          have e55 : a'.eval (.tmp 55) = (.bool true) := (hd 5 55 (by kernel_rfl))
          clear hd hq
          refine op_value (wanted_free _ _ (by rfl)) (v := (.bool true)) (w'' := w') ?_ (hK _ _ hI (fun _ _ h => h) rfl)
          clear hK
          simp only [execOp, e55]
          have f55 : a'.tmps[55]?.getD undef = (.bool true) := (Array.getD_eq_getD_getElem? ..).symm.trans e55
          clear e55
          first | rfl | (go_simp <;> exact IntWalk.i64_in _ (by omega))
        · intro a' w' K hI hd hq hK
          have hg := hd 6 56 (by kernel_rfl)
          have e5 : a'.eval (.tmp 5) = .pointer (some ⟨n2, 0, none⟩) := (hq 5 (by kernel_rfl)).trans rfl
          clear hd hq
          obtain ⟨g0, g1, g2, g3⟩ := K2.out _ hI
          refine op_value (wanted_on _ a' 6 56 true (by rfl) (by rfl) hg) (v := .agg #[.int .i64 k1, .string z1, .slice A2 y1.length c2, .string z2]) (w'' := w') ?_ (hK _ _ hI (fun _ _ h => h) rfl)
          clear hK
          simp only [execOp, e5]
          have f5 : a'.tmps[5]?.getD undef = .pointer (some ⟨n2, 0, none⟩) := (Array.getD_eq_getD_getElem? ..).symm.trans e5
          clear e5
          first | rfl | (go_simp <;> exact IntWalk.i64_in _ (by omega))
        · intro a' w' K hI hd hq hK
          have hg := hd 6 56 (by kernel_rfl)
          have e7 : a'.eval (.tmp 7) = .pointer (some ⟨n4, 0, none⟩) := (hq 7 (by kernel_rfl)).trans rfl
          clear hd hq
          obtain ⟨g0, g1, g2, g3⟩ := K4.out _ hI
          refine op_value (wanted_on _ a' 6 56 true (by rfl) (by rfl) hg) (v := .agg #[.int .i64 k1, .string z1, .slice A4 y1.length c4, .string z2]) (w'' := w') ?_ (hK _ _ hI (fun _ _ h => h) rfl)
          clear hK
          simp only [execOp, e7]
          have f7 : a'.tmps[7]?.getD undef = .pointer (some ⟨n4, 0, none⟩) := (Array.getD_eq_getD_getElem? ..).symm.trans e7
          clear e7
          first | rfl | (go_simp <;> exact IntWalk.i64_in _ (by omega))
        · intro a' w' K hI hd hq hK
          have hg := hd 6 56 (by kernel_rfl)
          have e57 : a'.eval (.tmp 57) = .agg #[.int .i64 k1, .string z1, .slice A2 y1.length c2, .string z2] := (hd 7 57 (by kernel_rfl))
          have e58 : a'.eval (.tmp 58) = .agg #[.int .i64 k1, .string z1, .slice A4 y1.length c4, .string z2] := (hd 8 58 (by kernel_rfl))
          clear hd hq
          refine op_call #[.agg #[.int .i64 k1, .string z1, .slice A2 y1.length c2, .string z2], .agg #[.int .i64 k1, .string z1, .slice A4 y1.length c4, .string z2]] (wanted_on _ a' 6 56 true (by rfl) (by rfl) hg) rfl Try.func24 (by kernel_rfl) rfl (by simp [e57, e58]) ?_
          refine (same_any k1 z1 z2 A2 A4 c2 c4 y1 w' (RG2.out _ hI) (RG4.out _ hI) (Nat.le_trans HY1.out (by decide))).mono ?_
          rintro e w6 ⟨rfl, hb⟩
          exact ⟨_, rfl, hK _ _ (below_below hI hI.size hb) (fun j u => by match j with | 0 | 1 | 2 | 3 | 4 | 5 | 6 | 7 | 8 | 9 | 10 | 11 | 12 | 13 | 14 | 15 | 16 | 17 | 18 | 19 | 20 | 21 | 22 | 23 | 24 | 25 | 26 | 27 | 28 | 29 => exact fun h => h | _ + 30 => exact fun _ => trivial) rfl⟩
        · intro a' w' K hI hd hq hK
          have e56 : a'.eval (.tmp 56) = (.bool true) := (hd 6 56 (by kernel_rfl))
          have e59 : a'.eval (.tmp 59) = .bool true := (hd 9 59 (by kernel_rfl))
          clear hd hq
          refine op_value (wanted_free _ _ (by rfl)) (v := (.bool true)) (w'' := w') ?_ (hK _ _ hI (fun _ _ h => h) rfl)
          clear hK
          simp only [execOp, e56, e59]
          have f56 : a'.tmps[56]?.getD undef = (.bool true) := (Array.getD_eq_getD_getElem? ..).symm.trans e56
          have f59 : a'.tmps[59]?.getD undef = .bool true := (Array.getD_eq_getD_getElem? ..).symm.trans e59
          clear e56 e59
          first | rfl | (go_simp <;> exact IntWalk.i64_in _ (by omega))
        · intro a' w' K hI hd hq hK
          have e60 : a'.eval (.tmp 60) = (.bool true) := (hd 10 60 (by kernel_rfl))
          clear hd hq
          refine op_value (wanted_free _ _ (by rfl)) (v := (.bool true)) (w'' := w') ?_ (hK _ _ hI (fun _ _ h => h) rfl)
          clear hK
          simp only [execOp, e60]
          have f60 : a'.tmps[60]?.getD undef = (.bool true) := (Array.getD_eq_getD_getElem? ..).symm.trans e60
          clear e60
          first | rfl | (go_simp <;> exact IntWalk.i64_in _ (by omega))
        · intro a' w' K hI hd hq hK
          have hg := hd 11 61 (by kernel_rfl)
          have e6 : a'.eval (.tmp 6) = .int .i64 ec := (hq 6 (by kernel_rfl)).trans rfl
          clear hd hq
          refine op_value (wanted_on _ a' 11 61 true (by rfl) (by rfl) hg) (v := .int .i64 ec) (w'' := w') ?_ (hK _ _ hI (fun _ _ h => h) rfl)
          clear hK
          simp only [execOp, e6]
          have f6 : a'.tmps[6]?.getD undef = .int .i64 ec := (Array.getD_eq_getD_getElem? ..).symm.trans e6
          clear e6
          first | rfl | (go_simp <;> exact IntWalk.i64_in _ (by omega))
        · intro a' w' K hI hd hq hK
          have hg := hd 11 61 (by kernel_rfl)
          have e8 : a'.eval (.tmp 8) = .int .i64 ec := (hq 8 (by kernel_rfl)).trans rfl
          clear hd hq
          refine op_value (wanted_on _ a' 11 61 true (by rfl) (by rfl) hg) (v := .int .i64 ec) (w'' := w') ?_ (hK _ _ hI (fun _ _ h => h) rfl)
          clear hK
          simp only [execOp, e8]
          have f8 : a'.tmps[8]?.getD undef = .int .i64 ec := (Array.getD_eq_getD_getElem? ..).symm.trans e8
          clear e8
          first | rfl | (go_simp <;> exact IntWalk.i64_in _ (by omega))
        · intro a' w' K hI hd hq hK
          have hg := hd 11 61 (by kernel_rfl)
          have e62 : a'.eval (.tmp 62) = .int .i64 ec := (hd 12 62 (by kernel_rfl))
          have e63 : a'.eval (.tmp 63) = .int .i64 ec := (hd 13 63 (by kernel_rfl))
          clear hd hq
          refine op_value (wanted_on _ a' 11 61 true (by rfl) (by rfl) hg) (v := (.bool true)) (w'' := w') ?_ (hK _ _ hI (fun _ _ h => h) rfl)
          clear hK
          simp only [execOp, e62, e63]
          have f62 : a'.tmps[62]?.getD undef = .int .i64 ec := (Array.getD_eq_getD_getElem? ..).symm.trans e62
          have f63 : a'.tmps[63]?.getD undef = .int .i64 ec := (Array.getD_eq_getD_getElem? ..).symm.trans e63
          clear e62 e63
          first | rfl | (go_simp <;> exact IntWalk.i64_in _ (by omega))
        · intro a' w' K hI hd hq hK
          have e61 : a'.eval (.tmp 61) = (.bool true) := (hd 11 61 (by kernel_rfl))
          have e64 : a'.eval (.tmp 64) = (.bool true) := (hd 14 64 (by kernel_rfl))
          clear hd hq
          refine op_value (wanted_free _ _ (by rfl)) (v := (.bool true)) (w'' := w') ?_ (hK _ _ hI (fun _ _ h => h) rfl)
          clear hK
          simp only [execOp, e61, e64]
          have f61 : a'.tmps[61]?.getD undef = (.bool true) := (Array.getD_eq_getD_getElem? ..).symm.trans e61
          have f64 : a'.tmps[64]?.getD undef = (.bool true) := (Array.getD_eq_getD_getElem? ..).symm.trans e64
          clear e61 e64
          first | rfl | (go_simp <;> exact IntWalk.i64_in _ (by omega))
        · intro a' w' K hI hd hq hK
          have e65 : a'.eval (.tmp 65) = (.bool true) := (hd 15 65 (by kernel_rfl))
          clear hd hq
          refine op_value (wanted_free _ _ (by rfl)) (v := (.bool true)) (w'' := w') ?_ (hK _ _ hI (fun _ _ h => h) rfl)
          clear hK
          simp only [execOp, e65]
          have f65 : a'.tmps[65]?.getD undef = (.bool true) := (Array.getD_eq_getD_getElem? ..).symm.trans e65
          clear e65
          first | rfl | (go_simp <;> exact IntWalk.i64_in _ (by omega))
        · intro a' w' K hI hd hq hK
          have hg := hd 16 66 (by kernel_rfl)
          have e9 : a'.eval (.tmp 9) = .pointer (some ⟨n8, 0, none⟩) := (hq 9 (by kernel_rfl)).trans rfl
          clear hd hq
          obtain ⟨g0, g1, g2, g3⟩ := K8.out _ hI
          refine op_value (wanted_on _ a' 16 66 true (by rfl) (by rfl) hg) (v := .agg #[.int .i64 k6, .string z3, .slice A8 y6.length c8, .string z4]) (w'' := w') ?_ (hK _ _ hI (fun _ _ h => h) rfl)
          clear hK
          simp only [execOp, e9]
          have f9 : a'.tmps[9]?.getD undef = .pointer (some ⟨n8, 0, none⟩) := (Array.getD_eq_getD_getElem? ..).symm.trans e9
          clear e9
          first | rfl | (go_simp <;> exact IntWalk.i64_in _ (by omega))
        · intro a' w' K hI hd hq hK
          have hg := hd 16 66 (by kernel_rfl)
          have e11 : a'.eval (.tmp 11) = .pointer (some ⟨nC, 0, none⟩) := (hq 11 (by kernel_rfl)).trans rfl
          clear hd hq
          obtain ⟨g0, g1, g2, g3⟩ := KC.out _ hI
          refine op_value (wanted_on _ a' 16 66 true (by rfl) (by rfl) hg) (v := .agg #[.int .i64 k6, .string z3, .slice AC y6.length cC, .string z4]) (w'' := w') ?_ (hK _ _ hI (fun _ _ h => h) rfl)
          clear hK
          simp only [execOp, e11]
          have f11 : a'.tmps[11]?.getD undef = .pointer (some ⟨nC, 0, none⟩) := (Array.getD_eq_getD_getElem? ..).symm.trans e11
          clear e11
          first | rfl | (go_simp <;> exact IntWalk.i64_in _ (by omega))
        · intro a' w' K hI hd hq hK
          have hg := hd 16 66 (by kernel_rfl)
          have e67 : a'.eval (.tmp 67) = .agg #[.int .i64 k6, .string z3, .slice A8 y6.length c8, .string z4] := (hd 17 67 (by kernel_rfl))
          have e68 : a'.eval (.tmp 68) = .agg #[.int .i64 k6, .string z3, .slice AC y6.length cC, .string z4] := (hd 18 68 (by kernel_rfl))
          clear hd hq
          refine op_call #[.agg #[.int .i64 k6, .string z3, .slice A8 y6.length c8, .string z4], .agg #[.int .i64 k6, .string z3, .slice AC y6.length cC, .string z4]] (wanted_on _ a' 16 66 true (by rfl) (by rfl) hg) rfl Try.func24 (by kernel_rfl) rfl (by simp [e67, e68]) ?_
          refine (same_any k6 z3 z4 A8 AC c8 cC y6 w' (RG8.out _ hI) (RGC.out _ hI) (Nat.le_trans HY6.out (by decide))).mono ?_
          rintro e w6 ⟨rfl, hb⟩
          exact ⟨_, rfl, hK _ _ (below_below hI hI.size hb) (fun j u => by match j with | 0 | 1 | 2 | 3 | 4 | 5 | 6 | 7 | 8 | 9 | 10 | 11 | 12 | 13 | 14 | 15 | 16 | 17 | 18 | 19 | 20 | 21 | 22 | 23 | 24 | 25 | 26 | 27 | 28 | 29 => exact fun h => h | _ + 30 => exact fun _ => trivial) rfl⟩
        · intro a' w' K hI hd hq hK
          have e66 : a'.eval (.tmp 66) = (.bool true) := (hd 16 66 (by kernel_rfl))
          have e69 : a'.eval (.tmp 69) = .bool true := (hd 19 69 (by kernel_rfl))
          clear hd hq
          refine op_value (wanted_free _ _ (by rfl)) (v := (.bool true)) (w'' := w') ?_ (hK _ _ hI (fun _ _ h => h) rfl)
          clear hK
          simp only [execOp, e66, e69]
          have f66 : a'.tmps[66]?.getD undef = (.bool true) := (Array.getD_eq_getD_getElem? ..).symm.trans e66
          have f69 : a'.tmps[69]?.getD undef = .bool true := (Array.getD_eq_getD_getElem? ..).symm.trans e69
          clear e66 e69
          first | rfl | (go_simp <;> exact IntWalk.i64_in _ (by omega))
        · intro a' w' K hI hd hq hK
          have e70 : a'.eval (.tmp 70) = (.bool true) := (hd 20 70 (by kernel_rfl))
          clear hd hq
          refine op_value (wanted_free _ _ (by rfl)) (v := (.bool true)) (w'' := w') ?_ (hK _ _ hI (fun _ _ h => h) rfl)
          clear hK
          simp only [execOp, e70]
          have f70 : a'.tmps[70]?.getD undef = (.bool true) := (Array.getD_eq_getD_getElem? ..).symm.trans e70
          clear e70
          first | rfl | (go_simp <;> exact IntWalk.i64_in _ (by omega))
        · intro a' w' K hI hd hq hK
          have hg := hd 21 71 (by kernel_rfl)
          have e10 : a'.eval (.tmp 10) = .int .i64 ed := (hq 10 (by kernel_rfl)).trans rfl
          clear hd hq
          refine op_value (wanted_on _ a' 21 71 true (by rfl) (by rfl) hg) (v := .int .i64 ed) (w'' := w') ?_ (hK _ _ hI (fun _ _ h => h) rfl)
          clear hK
          simp only [execOp, e10]
          have f10 : a'.tmps[10]?.getD undef = .int .i64 ed := (Array.getD_eq_getD_getElem? ..).symm.trans e10
          clear e10
          first | rfl | (go_simp <;> exact IntWalk.i64_in _ (by omega))
        · intro a' w' K hI hd hq hK
          have hg := hd 21 71 (by kernel_rfl)
          have e12 : a'.eval (.tmp 12) = .int .i64 ed := (hq 12 (by kernel_rfl)).trans rfl
          clear hd hq
          refine op_value (wanted_on _ a' 21 71 true (by rfl) (by rfl) hg) (v := .int .i64 ed) (w'' := w') ?_ (hK _ _ hI (fun _ _ h => h) rfl)
          clear hK
          simp only [execOp, e12]
          have f12 : a'.tmps[12]?.getD undef = .int .i64 ed := (Array.getD_eq_getD_getElem? ..).symm.trans e12
          clear e12
          first | rfl | (go_simp <;> exact IntWalk.i64_in _ (by omega))
        · intro a' w' K hI hd hq hK
          have hg := hd 21 71 (by kernel_rfl)
          have e72 : a'.eval (.tmp 72) = .int .i64 ed := (hd 22 72 (by kernel_rfl))
          have e73 : a'.eval (.tmp 73) = .int .i64 ed := (hd 23 73 (by kernel_rfl))
          clear hd hq
          refine op_value (wanted_on _ a' 21 71 true (by rfl) (by rfl) hg) (v := (.bool true)) (w'' := w') ?_ (hK _ _ hI (fun _ _ h => h) rfl)
          clear hK
          simp only [execOp, e72, e73]
          have f72 : a'.tmps[72]?.getD undef = .int .i64 ed := (Array.getD_eq_getD_getElem? ..).symm.trans e72
          have f73 : a'.tmps[73]?.getD undef = .int .i64 ed := (Array.getD_eq_getD_getElem? ..).symm.trans e73
          clear e72 e73
          first | rfl | (go_simp <;> exact IntWalk.i64_in _ (by omega))
        · intro a' w' K hI hd hq hK
          have e71 : a'.eval (.tmp 71) = (.bool true) := (hd 21 71 (by kernel_rfl))
          have e74 : a'.eval (.tmp 74) = (.bool true) := (hd 24 74 (by kernel_rfl))
          clear hd hq
          refine op_value (wanted_free _ _ (by rfl)) (v := (.bool true)) (w'' := w') ?_ (hK _ _ hI (fun _ _ h => h) rfl)
          clear hK
          simp only [execOp, e71, e74]
          have f71 : a'.tmps[71]?.getD undef = (.bool true) := (Array.getD_eq_getD_getElem? ..).symm.trans e71
          have f74 : a'.tmps[74]?.getD undef = (.bool true) := (Array.getD_eq_getD_getElem? ..).symm.trans e74
          clear e71 e74
          first | rfl | (go_simp <;> exact IntWalk.i64_in _ (by omega))
        · intro a' w' K hI hd hq hK
          have e75 : a'.eval (.tmp 75) = (.bool true) := (hd 25 75 (by kernel_rfl))
          clear hd hq
          refine op_value (wanted_free _ _ (by rfl)) (v := (.bool true)) (w'' := w') ?_ (hK _ _ hI (fun _ _ h => h) rfl)
          clear hK
          simp only [execOp, e75]
          have f75 : a'.tmps[75]?.getD undef = (.bool true) := (Array.getD_eq_getD_getElem? ..).symm.trans e75
          clear e75
          first | rfl | (go_simp <;> exact IntWalk.i64_in _ (by omega))
        · intro a' w' K hI hd hq hK
          have hg := hd 26 76 (by kernel_rfl)
          clear hd hq
          refine op_call #[] (wanted_on _ a' 26 76 true (by rfl) (by rfl) hg) rfl Try.func16 (by kernel_rfl) rfl (by simp) ?_
          refine (known_any w').mono ?_
          rintro e w6 ⟨rfl, hb⟩
          exact ⟨_, rfl, hK _ _ (below_below hI hI.size hb) (fun j u => by match j with | 0 | 1 | 2 | 3 | 4 | 5 | 6 | 7 | 8 | 9 | 10 | 11 | 12 | 13 | 14 | 15 | 16 | 17 | 18 | 19 | 20 | 21 | 22 | 23 | 24 | 25 | 26 | 27 | 28 | 29 => exact fun h => h | _ + 30 => exact fun _ => trivial) rfl⟩
        · intro a' w' K hI hd hq hK
          have e76 : a'.eval (.tmp 76) = (.bool true) := (hd 26 76 (by kernel_rfl))
          have e77 : a'.eval (.tmp 77) = .bool true := (hd 27 77 (by kernel_rfl))
          clear hd hq
          refine op_value (wanted_free _ _ (by rfl)) (v := (.bool true)) (w'' := w') ?_ (hK _ _ hI (fun _ _ h => h) rfl)
          clear hK
          simp only [execOp, e76, e77]
          have f76 : a'.tmps[76]?.getD undef = (.bool true) := (Array.getD_eq_getD_getElem? ..).symm.trans e76
          have f77 : a'.tmps[77]?.getD undef = .bool true := (Array.getD_eq_getD_getElem? ..).symm.trans e77
          clear e76 e77
          first | rfl | (go_simp <;> exact IntWalk.i64_in _ (by omega))
        · intro a' w' K hI hd hq hK
          have e78 : a'.eval (.tmp 78) = (.bool true) := (hd 28 78 (by kernel_rfl))
          clear hd hq
          refine op_value (wanted_free _ _ (by rfl)) (v := (.bool true)) (w'' := w') ?_ (hK _ _ hI (fun _ _ h => h) rfl)
          clear hK
          simp only [execOp, e78]
          have f78 : a'.tmps[78]?.getD undef = (.bool true) := (Array.getD_eq_getD_getElem? ..).symm.trans e78
          clear e78
          first | rfl | (go_simp <;> exact IntWalk.i64_in _ (by omega))
      case fin9 =>
        rintro w' hI _ rfl _ rfl _ rfl _ rfl _ rfl _ rfl _ rfl _ rfl _ rfl _ rfl _ rfl _ rfl _ rfl _ rfl _ rfl _ rfl _ rfl _ rfl _ rfl _ rfl _ rfl _ rfl _ rfl _ rfl _ rfl _ rfl _ rfl _ rfl _ rfl _ rfl
        simp only [Act.put, List.setIfInBounds_toArray, List.set_cons_zero, List.set_cons_succ, FinGoal]
        have BE := Lib.hid (below_below BZ.out BZ.out.size hI)
        clear hI
        go_wp2_with fail
        go_ret
        exact ⟨rfl, BE.out⟩
end Go.Proofs.Ytjakhemolecbnaa
end
