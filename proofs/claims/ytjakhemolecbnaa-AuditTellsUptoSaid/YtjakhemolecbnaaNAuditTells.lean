/-
  The law AuditTells: chains are verified, and outcomes told, as the document says: of any records, in any claims, with bytes turned (texts of moderate size).
-/
import Derived.Test.YtjakhemolecbnaaNM3
import Derived.Test.YtjakhemolecbnaaNL4
import Derived.Test.YtjakhemolecbnaaNG
import Derived.Test.YtjakhemolecbnaaNH
import Derived.Deep.CutBlock
set_option linter.unusedVariables false
set_option linter.unusedSimpArgs false
namespace Go.Proofs.Ytjakhemolecbnaa
open Go.RowKit

set_option maxRecDepth 100000 in
set_option maxHeartbeats 16000000 in
theorem auditTells_any (A1 A2 A3 A4 : Option Addr) (n1 n2 n3 n4 c1 c2 c3 c4 : Nat) (at' : Int) (tu : UInt8) (wild : Bool) (L1 L2 L3 : List Rm) (zs : List Int) (w : World) (hl1 : L1.length = n1) (hl2 : L2.length = n2) (hl3 : L3.length = n3) (hl4 : zs.length = n4) (hr1 : RC w A1 (rmc L1)) (hr2 : RC w A2 (rmc L2)) (hr3 : RC w A3 (rmc L3)) (hr4 : RG w A4 zs) (hi1 : ∀ m ∈ L1, RmIn w m) (hi2 : ∀ m ∈ L2, RmIn w m) (hi3 : ∀ m ∈ L3, RmIn w m) (ht1 : bulkR L1 ≤ 1048576) (ht2 : bulkR L2 ≤ 1048576) (ht3 : bulkR L3 ≤ 1048576) (ha0 : -9223372036854775808 ≤ at') (ha1 : at' ≤ 9223372036854775807) :
    Calls Try.prog 4 #[.slice A1 n1 c1, .slice A2 n2 c2, .slice A3 n3 c3, .slice A4 n4 c4, .int .i64 at', .int .u8 (un8 tu), .bool wild] w fun e w' => e = .returned (.bool true) ∧ Below w.heap.size w w' := by
  subst hl1 hl2 hl3 hl4
  have HA0 := Lib.hid (And.intro ha0 ha1)
  clear ha0 ha1
  have b01 : Below w.heap.size w (w.alloc (.cells #[.slice A1 L1.length c1, .slice A2 L2.length c2, .slice A3 L3.length c3] 29)) := (Below.refl _ _).alloc (Nat.le_refl _) _
  have hx1 := heap_alloc_new w (.cells #[.slice A1 L1.length c1, .slice A2 L2.length c2, .slice A3 L3.length c3] 29)
  obtain ⟨w1, hw1⟩ : ∃ w1, w1 = w.alloc (.cells #[.slice A1 L1.length c1, .slice A2 L2.length c2, .slice A3 L3.length c3] 29) := ⟨_, rfl⟩
  rw [← hw1] at b01 hx1
  obtain ⟨nX, hnX⟩ : ∃ nX, nX = w.heap.size := ⟨_, rfl⟩
  rw [← hnX] at hx1
  have HX := Lib.hid (show ∀ i : Nat, i < 3 → ∃ (Ax : Option Addr) (cx : Nat) (Lx : List Rm), w1.cell? ⟨nX, i, none⟩ = some (.slice Ax Lx.length cx) ∧ RC w1 Ax (rmc Lx) ∧ bulkR Lx ≤ 1048576 ∧ ∀ m ∈ Lx, RmIn w1 m by
    intro i hi
    obtain rfl | rfl | rfl : i = 0 ∨ i = 1 ∨ i = 2 := by omega
    · exact ⟨A1, c1, L1, (cell_of_row w1 nX 0 _ _ _ hx1).trans rfl, hr1.below b01, ht1, fun m hm => (hi1 m hm).below b01⟩
    · exact ⟨A2, c2, L2, (cell_of_row w1 nX 1 _ _ _ hx1).trans rfl, hr2.below b01, ht2, fun m hm => (hi2 m hm).below b01⟩
    · exact ⟨A3, c3, L3, (cell_of_row w1 nX 2 _ _ _ hx1).trans rfl, hr3.below b01, ht3, fun m hm => (hi3 m hm).below b01⟩)
  have HR4 := Lib.hid (show RG w1 A4 zs from hr4.below b01)
  have B01 := Lib.hid b01
  have HW1 := Lib.hid hw1
  have HNX := Lib.hid hnX
  clear hr1 hr2 hr3 hr4 hi1 hi2 hi3 ht1 ht2 ht3 b01 hx1 hw1 hnX
  go_enter Try.func4, Try.ntmps4
  go_upto_block 0 with fail
  rw [show w.alloc (.cells #[.slice A1 L1.length c1, .slice A2 L2.length c2, .slice A3 L3.length c3] 29) = w1 from HW1.out.symm, ← HNX.out]
  go_wp2_with fail
  go_loopg [15, 33] 3 (fun k s15 s33 wr => ∃ L : List Cl, L.length ≤ 3 ∧ k = 3 - L.length ∧ s33 = .int .i64 (L.length : Int) ∧ ClsG wr w1.heap.size s15 L ∧ (∀ x ∈ L, OwnB wr w1.heap.size x) ∧ Below w1.heap.size w1 wr)
  case atStart => exact ⟨[], by simp, rfl, rfl, ClsG.nil _ _, (fun c hc => by cases hc), Below.refl _ _⟩
  case round =>
    obtain ⟨L, h3, hk, rfl, hg, hob, hb⟩ := hrel
    obtain ⟨Av, cv, rfl, hcv⟩ := own_slice hg.own
    have HK0 := Lib.hid hk
    have HG0 := Lib.hid hg
    have HOB0 := Lib.hid hob
    have HB0 := Lib.hid hb
    have H30 := Lib.hid h3
    clear hk hg hob hb hcv
    rename World => wI
    by_cases hlt0 : L.length < 3
    · obtain ⟨Ax, cx, Lx, hcx, hrx, hbx, hix⟩ := HX.out L.length hlt0
      have q0 : wI.cell? ⟨nX, L.length, none⟩ = some (.slice Ax Lx.length cx) := cell_below HB0.out hcx
      have HRX := Lib.hid (RC.below hrx HB0.out)
      have HIX := Lib.hid (fun m hm => (hix m hm).below HB0.out)
      have HBX := Lib.hid hbx
      have hj0 : (0 : Int) ≤ (L.length : Int) := by omega
      have hj3 : (L.length : Int) < 3 := by omega
      have HLT0 := Lib.hid hlt0
      clear hcx hrx hix hbx hlt0 h3
      go_upto_block 2 with fail
      go_cut [18] (fun s wx => ∃ ms : List Rm, ms.length ≤ 8 ∧ bulkR ms ≤ 1048584 ∧ RecsV wx wI.heap.size s ms ∧ Below wI.heap.size wI wx)
      case first =>
        go_wp2_with fail
        go_loopg [18, 19] 8 (fun k s5 s7 wr => ∃ ms : List Rm, ms.length ≤ 8 ∧ ms.length ≤ Lx.length ∧ k = 8 - ms.length ∧ s7 = .int .i64 (ms.length : Int) ∧ bulkR ms ≤ bulkR (Lx.take ms.length) + ms.length ∧ RecsV wr wI.heap.size s5 ms ∧ Below wI.heap.size wI wr)
        case atStart => exact ⟨[], by simp, by simp, rfl, rfl, by simp [bulkR], RecsV.nil _ _, Below.refl _ _⟩
        case round =>
          obtain ⟨ms, h8, hle, hk, rfl, hmp, hg, hb⟩ := hrel
          obtain ⟨Av2, cv2, rfl, hcv⟩ := own_slice hg.own
          have HK := Lib.hid hk
          have HMP := Lib.hid hmp
          have HG := Lib.hid hg
          have HB := Lib.hid hb
          have HH8 := Lib.hid h8
          have HBE := Lib.hid (show bulkR ms ≤ 1048584 by have := bulk_take_le Lx ms.length; have := HBX.out; omega)
          clear hk hmp hg hb hcv
          by_cases hlt : ms.length < Lx.length
          · by_cases hlt8 : ms.length < 8
            · obtain ⟨b1, o1, rfl, e1⟩ := HRX.out.part (by rw [rmc_length]; omega)
              have hget := rmc_get Lx ms.length hlt
              have hin := HIX.out _ (List.getElem_mem hlt)
              have HTK := Lib.hid (bulk_take Lx ms.length hlt)
              generalize Lx[ms.length] = x at *
              obtain ⟨xk, xt, xA, xc, xg, xb⟩ := x
              dsimp only at hget
              have hbl := HB.out
              have q0 : wr.cell? ⟨b1, o1 + ms.length * 4, none⟩ = some (.int .i64 xk) := cell_below hbl (e1 _ _ hget.1)
              have q1 : wr.cell? ⟨b1, o1 + ms.length * 4 + 1, none⟩ = some (.string (strB xt)) := by rw [Nat.add_assoc]; exact cell_below hbl (e1 _ _ hget.2.1)
              have q2 : wr.cell? ⟨b1, o1 + ms.length * 4 + 2, none⟩ = some (.slice xA xg.length xc) := by rw [Nat.add_assoc]; exact cell_below hbl (e1 _ _ hget.2.2.1)
              have q3 : wr.cell? ⟨b1, o1 + ms.length * 4 + 3, none⟩ = some (.string (strB xb)) := by rw [Nat.add_assoc]; exact cell_below hbl (e1 _ _ hget.2.2.2)
              have hi0 : (0 : Int) ≤ (ms.length : Int) := by omega
              have hi1 : (ms.length : Int) < (Lx.length : Int) := by omega
              have hi8 : (ms.length : Int) < 8 := by omega
              have HLT := Lib.hid hlt
              have HL8 := Lib.hid hlt8
              have HIN := Lib.hid hin
              clear hget hin e1 hlt hlt8 h8 hle hbl
              go_upto_if 53 with fail
              have hb2 : Below wr.heap.size wr (wr.alloc (.cells #[.int .i64 xk, .string (strB xt), .slice xA xg.length xc, .string (strB xb)] 24)) := (Below.refl _ _).alloc (Nat.le_refl _) _
              have hx2 := heap_alloc_new wr (.cells #[.int .i64 xk, .string (strB xt), .slice xA xg.length xc, .string (strB xb)] 24)
              have hs2 : (wr.alloc (.cells #[.int .i64 xk, .string (strB xt), .slice xA xg.length xc, .string (strB xb)] 24)).heap.size = wr.heap.size + 1 := by simp
              obtain ⟨w2, hw2⟩ : ∃ w2, w2 = wr.alloc (.cells #[.int .i64 xk, .string (strB xt), .slice xA xg.length xc, .string (strB xb)] 24) := ⟨_, rfl⟩
              rw [← hw2] at hb2 hx2 hs2
              obtain ⟨bR, hbR⟩ : ∃ b, b = wr.heap.size := ⟨_, rfl⟩
              rw [← hbR] at hx2
              have HOFX := Lib.hid (show 0 < xg.length → ∀ ad, xA = some ad → ad.block < w2.heap.size ∧ (Value.slice Av2 ms.length cv2).ownBlock ≠ some ad.block ∧ ad.block ≠ bR by
                intro h0 ad e
                have h1 : ad.block < wI.heap.size := RC.lt_size (show RC wI xA (xg.map (Value.int .i64)) from HIN.out.g) (by simpa using h0) ad e
                have h2 := HB.out.size
                refine ⟨by omega, fun h5 => ?_, by omega⟩
                have := (World.ownsRow.lt HG.out.own _ h5).1
                omega)
              have HRGX := Lib.hid (show RG w2 xA xg from (show RG wI xA xg from HIN.out.g).below (below_below HB.out HB.out.size hb2))
              have B2 := Lib.hid hb2
              have HX2 := Lib.hid hx2
              have HS2 := Lib.hid hs2
              have HW2 := Lib.hid hw2
              have HBR := Lib.hid hbR
              clear hb2 hx2 hs2 hw2 hbR q0 q1 q2 q3
              rw [show wr.alloc (.cells #[.int .i64 xk, .string (strB xt), .slice xA xg.length xc, .string (strB xb)] 24) = w2 from HW2.out.symm, ← HBR.out]
              go_cut [] (fun wx => ∃ (yk : Int) (yt : List UInt8) (yA : Option Addr) (yc : Nat) (yg : List Int) (yb : List UInt8), wx.heap[bR]? = some (.cells #[.int .i64 yk, .string (strB yt), .slice yA yg.length yc, .string (strB yb)] 24 (0, 0)) ∧ RG wx yA yg ∧ (6 < yg.length → yg.length ≤ yc ∧ yg.length ≤ 140737488351232) ∧ (0 < yg.length → ∀ ad, yA = some ad → ad.block < wx.heap.size ∧ (Value.slice Av2 ms.length cv2).ownBlock ≠ some ad.block ∧ ad.block ≠ bR) ∧ yt.length + yb.length ≤ xt.length + xb.length + 1 ∧ Below wr.heap.size wr wx)
              case first =>
                cases wild
                · have k0 : w2.cell? ⟨bR, 0, none⟩ = some (.int .i64 xk) := (cell_of_row w2 bR 0 _ _ _ HX2.out).trans rfl
                  have k1 : w2.cell? ⟨bR, 1, none⟩ = some (.string (strB xt)) := (cell_of_row w2 bR 1 _ _ _ HX2.out).trans rfl
                  have k2 : w2.cell? ⟨bR, 2, none⟩ = some (.slice xA xg.length xc) := (cell_of_row w2 bR 2 _ _ _ HX2.out).trans rfl
                  have k3 : w2.cell? ⟨bR, 3, none⟩ = some (.string (strB xb)) := (cell_of_row w2 bR 3 _ _ _ HX2.out).trans rfl
                  go_wp2_with fail
                  refine (tame_any xk (strB xt) (strB xb) xA xg.length xc w2 (by rw [strB_size]; have := HIN.out.tx; dsimp only at this; omega) (by rw [strB_size]; have := HIN.out.bd; dsimp only at this; omega)).mono ?_
                  rintro e w3 ⟨A', c', rfl, hb3, hg3, hf3⟩
                  obtain ⟨hq1, hq2, hq3⟩ := tame_small xk (strB xt).size (strB xb).size
                  generalize tameS xk (strB xt).size (strB xb).size = ts at *
                  obtain ⟨tk, tt, tg, tb⟩ := ts
                  dsimp only at hg3 hq1 hq2 hq3
                  unfold Rp.m Rm.cells
                  dsimp only
                  have hx3 : w3.heap[bR]? = some (.cells #[.int .i64 xk, .string (strB xt), .slice xA xg.length xc, .string (strB xb)] 24 (0, 0)) := (hb3.block bR (by rw [HS2.out, HBR.out]; omega)).trans HX2.out
                  have l0 : w3.cell? ⟨bR, 0, none⟩ = some (.int .i64 xk) := (cell_of_row w3 bR 0 _ _ _ hx3).trans rfl
                  have l1 : w3.cell? ⟨bR, 1, none⟩ = some (.string (strB xt)) := (cell_of_row w3 bR 1 _ _ _ hx3).trans rfl
                  have l2 : w3.cell? ⟨bR, 2, none⟩ = some (.slice xA xg.length xc) := (cell_of_row w3 bR 2 _ _ _ hx3).trans rfl
                  have l3 : w3.cell? ⟨bR, 3, none⟩ = some (.string (strB xb)) := (cell_of_row w3 bR 3 _ _ _ hx3).trans rfl
                  have fr0 := frozen_of_row w3 bR 0 _ _ hx3
                  have fr1 := frozen_of_row w3 bR 1 _ _ hx3
                  have fr2 := frozen_of_row w3 bR 2 _ _ hx3
                  have fr3 := frozen_of_row w3 bR 3 _ _ hx3
                  have H4 := Lib.hid (set4 hx3 (.int .i64 tk) (.string (strB tt)) (.slice A' tg.length c') (.string (strB tb)))
                  have B3 := Lib.hid hb3
                  have G3 := Lib.hid hg3
                  have F3 := Lib.hid hf3
                  have HQ := Lib.hid (And.intro hq1 (And.intro hq2 hq3))
                  clear hx3 hb3 hg3 hf3 hq1 hq2 hq3 k0 k1 k2 k3
                  go_wp2_with fail
                  go_meet
                  refine ⟨tk, tt, A', c', tg, tb, H4.out.1, ?_, ?_, ?_, ?_, ?_⟩
                  · refine RC.upd G3.out H4.out.2 (fun h0 ad e hk => ?_)
                    have h1 := F3.out ad e
                    have h2 := HS2.out
                    have h3 := HBR.out
                    omega
                  · intro h6
                    have := HQ.out.1
                    omega
                  · intro h0 ad e
                    have h1 := F3.out ad e
                    have h2 := HS2.out
                    have h3 := HBR.out
                    have h4 := H4.out.2.size
                    refine ⟨by omega, fun h5 => ?_, by omega⟩
                    have := (World.ownsRow.lt HG.out.own _ h5).2
                    omega
                  · have h1 := HQ.out.2.1
                    have h2 := HQ.out.2.2
                    rw [h2, List.length_nil]
                    omega
                  · exact below_upd (below_below B2.out B2.out.size B3.out) (by have := B2.out.size; have := B3.out.size; omega) H4.out.2 (fun k hk => by rw [hk, HBR.out]; exact Nat.le_refl _)
                · go_wp2_with fail
                  go_meet
                  exact ⟨xk, xt, xA, xc, xg, xb, HX2.out, HRGX.out, fun _ => ⟨HIN.out.gc, by have := HIN.out.gl; dsimp only at this; omega⟩, HOFX.out, by omega, B2.out⟩
              obtain ⟨yk, yt, yA, yc, yg, yb, hy1, hy2, hy3, hy4, hy5, hy6⟩ := hcut
              rename World => w3
              have HY1 := Lib.hid hy1
              have HY2 := Lib.hid hy2
              have HY3 := Lib.hid hy3
              have HY4 := Lib.hid hy4
              have HY5 := Lib.hid hy5
              have HY6 := Lib.hid hy6
              clear hy1 hy2 hy3 hy4 hy5 hy6 HX2 HRGX HOFX B2 HS2 HW2
              have g2 : w3.cell? ⟨bR, 2, none⟩ = some (.slice yA yg.length yc) := (cell_of_row w3 bR 2 _ _ _ HY1.out).trans rfl
              have fr2 := frozen_of_row w3 bR 2 _ _ HY1.out
              go_upto_if 59 with fail
              go_cut [] (fun wx => ∃ (zg : List Int), wx.heap[bR]? = some (.cells #[.int .i64 yk, .string (strB yt), .slice yA zg.length yc, .string (strB yb)] 24 (0, 0)) ∧ GV wx (.slice Av2 ms.length cv2) ⟨yk, yt, yA, yc, zg, yb⟩ ∧ Below wr.heap.size wr wx)
              case first =>
                by_cases h6 : 6 < yg.length
                · have hi6 : (6 : Int) < (yg.length : Int) := by omega
                  have hc6 : (6 : Int) ≤ (yc : Int) := by have := (HY3.out h6).1; omega
                  have hl6 : (yg.length : Int) ≤ (yc : Int) := by have := (HY3.out h6).1; omega
                  have hl9 : (yg.length : Int) ≤ 140737488351232 := by have := (HY3.out h6).2; omega
                  have hx2 : (w3.setCell ⟨bR, 2, none⟩ (.slice yA 6 yc)).heap[bR]? = some (.cells #[.int .i64 yk, .string (strB yt), .slice yA 6 yc, .string (strB yb)] 24 (0, 0)) := by
                    rw [setCell_at HY1.out _]
                    rfl
                  have hu2 : Upd (fun k => k = bR) w3 (w3.setCell ⟨bR, 2, none⟩ (.slice yA 6 yc)) := (Upd.refl (fun k => k = bR) w3).setCell (p := ⟨bR, 2, none⟩) (fun _ => rfl) _
                  have HX2 := Lib.hid hx2
                  have HU2 := Lib.hid hu2
                  have H6 := Lib.hid h6
                  clear hx2 hu2 h6
                  go_wp2_with fail
                  go_meet
                  have hlz : (yg.take 6).length = 6 := by rw [List.length_take]; have := H6.out; omega
                  refine ⟨yg.take 6, ?_, ⟨?_, Nat.le_of_eq hlz, fun h0 ad e => ?_⟩, below_upd HY6.out HY6.out.size HU2.out (fun k hk => by rw [hk, HBR.out]; exact Nat.le_refl _)⟩
                  · rw [hlz]
                    exact HX2.out
                  · have h1 : RC w3 yA ((yg.take 6).map (Value.int .i64)) := by
                      rw [List.map_take]
                      exact RC_take HY2.out 6
                    exact RC.upd h1 HU2.out (fun h0 ad e hk => (HY4.out (by have := H6.out; omega) ad e).2.2 hk)
                  · have h1 := HY4.out (by have := H6.out; omega) ad e
                    exact ⟨Nat.lt_of_lt_of_le h1.1 HU2.out.size, h1.2.1⟩
                · have hi6 : ¬ ((6 : Int) < (yg.length : Int)) := by omega
                  have H6 := Lib.hid (show yg.length ≤ 6 by omega)
                  clear h6
                  go_wp2_with fail
                  go_meet
                  exact ⟨yg, HY1.out, ⟨HY2.out, H6.out, fun h0 ad e => ⟨(HY4.out h0 ad e).1, (HY4.out h0 ad e).2.1⟩⟩, HY6.out⟩
              obtain ⟨zg, hz1, hz2, hz3⟩ := hcut
              rename World => w4
              have k0 : w4.cell? ⟨bR, 0, none⟩ = some (.int .i64 yk) := (cell_of_row w4 bR 0 _ _ _ hz1).trans rfl
              have k1 : w4.cell? ⟨bR, 1, none⟩ = some (.string (strB yt)) := (cell_of_row w4 bR 1 _ _ _ hz1).trans rfl
              have k2 : w4.cell? ⟨bR, 2, none⟩ = some (.slice yA zg.length yc) := (cell_of_row w4 bR 2 _ _ _ hz1).trans rfl
              have k3 : w4.cell? ⟨bR, 3, none⟩ = some (.string (strB yb)) := (cell_of_row w4 bR 3 _ _ _ hz1).trans rfl
              have HZ2 := Lib.hid hz2
              have HZB := Lib.hid (below_below HB.out HB.out.size hz3)
              have HZG := Lib.hid (HG.out.below hz3)
              clear hz1 hz2 hz3 g2 fr2
              go_wp2_with (at_builtin; refine append_recV rfl rfl (.tmp 64) (.tmp 66) rfl w4 wI.heap.size (.slice Av2 ms.length cv2) ms ⟨yk, yt, yA, yc, zg, yb⟩ rfl rfl rfl HZG.out HZ2.out HZB.out.size (by have := HL8.out; omega) ?_)
              intro v5 w5 hg5 hu5
              have HG5 := Lib.hid hg5
              have HB5 := Lib.hid (below_upd HZB.out HZB.out.size hu5 (fun k hk => (World.ownsRow.lt HZG.out.own k hk).1))
              clear hg5 hu5
              go_wp2_with fail
              go_roundg (8 - (ms.length + 1))
              case measure => have := HK.out; have := HL8.out; omega
              case rel => exact ⟨ms ++ [⟨yk, yt, yA, yc, zg, yb⟩], by simp; have := HL8.out; omega, by simp; exact HLT.out, by simp, by simp, by rw [bulk_snoc, List.length_append, List.length_singleton, HTK.out]; have := HMP.out; have := HY5.out; dsimp only; omega, HG5.out, HB5.out⟩
            · have h8' : ms.length = 8 := by omega
              have hn8 : ¬ ((ms.length : Int) < 8) := by omega
              have hi1 : (ms.length : Int) < (Lx.length : Int) := by omega
              clear hlt hlt8 h8 hle h8'
              go_wp2_with fail
              go_meet
              exact ⟨ms, HH8.out, HBE.out, HG.out, HB.out⟩
          · have hi1 : ¬ ((ms.length : Int) < (Lx.length : Int)) := by omega
            clear hlt h8 hle
            go_wp2_with fail
            go_meet
            exact ⟨ms, HH8.out, HBE.out, HG.out, HB.out⟩
      obtain ⟨ma, ha8, hat, hag, hab⟩ := hcut
      obtain ⟨Aa, ca, rfl, hca⟩ := own_slice hag.own
      rename World => wJ
      have HA8 := Lib.hid ha8
      have HAB := Lib.hid hab
      have RMA := Lib.hid (hag.at_ (Nat.le_trans hat (by decide)))
      have HGJ := Lib.hid (HG0.out.below hab)
      have HOJ := Lib.hid (fun x hx => (HOB0.out x hx).below hab)
      have HBJ := Lib.hid (below_below HB0.out HB0.out.size hab)
      clear ha8 hat hag hab hca q0
      go_upto_if 72 with fail
      go_cut [21] (fun s21 wx => ∃ g : Int, s21 = .int .i64 g ∧ wx = wJ)
      case first =>
        by_cases hz : L.length < zs.length
        · obtain ⟨z, hz1⟩ : ∃ z, zs[L.length]? = some z := ⟨_, List.getElem?_eq_getElem hz⟩
          obtain ⟨b4, o4, rfl, e4⟩ := HR4.out.part (by omega)
          have q1 : wJ.cell? ⟨b4, o4 + L.length, none⟩ = some (.int .i64 z) := cell_below HBJ.out (by
            have h := e4 L.length hz
            rw [h]
            obtain ⟨h1, h2⟩ := List.getElem?_eq_some_iff.1 hz1
            rw [h2])
          have hz0 : (L.length : Int) < (zs.length : Int) := by omega
          clear hz hz1 e4
          go_wp2_with fail
          refine (within_any z 0 2 _ (by omega) (by omega) (by omega) (by omega)).mono ?_
          rintro e w3 ⟨rfl, rfl⟩
          go_wp2_with fail
          go_meet
          exact ⟨_, rfl, rfl⟩
        · have hz0 : ¬ ((L.length : Int) < (zs.length : Int)) := by omega
          clear hz
          go_wp2_with fail
          go_meet
          exact ⟨_, rfl, rfl⟩
      case rest =>
        obtain ⟨g, rfl, hwx⟩ := hcut
        subst hwx
        go_wp2_with fail
        refine (claim_w g Aa ma.length ca ma wc rfl (by have := HA8.out; omega) RMA.out w1.heap.size (.slice Av L.length cv) L HGJ.out HBJ.out.size).mono ?_
        rintro e w3 ⟨xA, xc, xl, rfl, hb3, hg3, hx3, ho3⟩
        have HB3 := Lib.hid (below_below HBJ.out HBJ.out.size hb3)
        have HG3 := Lib.hid hg3
        have HX3 := Lib.hid hx3
        have HO3 := Lib.hid (show ∀ x ∈ L ++ [(⟨g, xA, xc, xl⟩ : Cl)], OwnB w3 w1.heap.size x by
          intro x hx
          rcases List.mem_append.1 hx with h | h
          · exact (HOJ.out x h).below hb3
          · rw [List.mem_singleton.1 h]; exact ho3)
        have HOF := Lib.hid (show ∀ x ∈ L ++ [(⟨g, xA, xc, xl⟩ : Cl)], ∀ k, (Value.slice x.A x.l.length x.c).ownBlock = some k → ¬ (Value.slice Av L.length cv).ownBlock = some k by
          intro x hx
          refine own_off (HO3.out x hx) ?_
          rcases List.mem_append.1 hx with h | h
          · exact HG3.out.b x h
          · rw [List.mem_singleton.1 h]; exact HX3.out)
        clear hb3 hg3 hx3 ho3
        go_wp2_with (at_builtin; refine append_cl rfl rfl (.tmp 78) (.tmp 82) rfl w3 w1.heap.size (.slice Av L.length cv) L ⟨g, xA, xc, xl⟩ rfl rfl rfl HG3.out HX3.out HB3.out.size (by have := HLT0.out; omega) ?_)
        intro v4 w4 hg4 hu4
        have HG4 := Lib.hid hg4
        have HO4 := Lib.hid (fun x hx => (HO3.out x hx).upd hu4 (HOF.out x hx))
        have HB4 := Lib.hid (below_upd HB3.out HB3.out.size hu4 (fun k hk => (World.ownsRow.lt HG3.out.own k hk).1))
        clear hg4 hu4
        go_wp2_with fail
        go_roundg (3 - (L.length + 1))
        case measure => have := HK0.out; have := HLT0.out; omega
        case rel => exact ⟨L ++ [⟨g, xA, xc, xl⟩], by simp; have := HLT0.out; omega, by simp, by simp, HG4.out, HO4.out, HB4.out⟩
    · have h3' : L.length = 3 := by omega
      have HL3 := Lib.hid h3'
      have hj3 : ¬ ((L.length : Int) < 3) := by omega
      clear hlt0 h3 h3'
      obtain ⟨gL, rfl⟩ : ∃ gL, Av = some ⟨gL, 0, none⟩ := by
        rcases HG0.out.own.2 with ⟨h, _⟩ | ⟨g, cap, cur, h, _⟩
        · exact absurd h (by rw [HL3.out]; simp)
        · exact ⟨g, by cases h; rfl⟩
      obtain ⟨x0, LT, hL⟩ : ∃ x t, L = x :: t := by
        cases L with
        | nil => exact absurd HL3.out (by simp)
        | cons x t => exact ⟨x, t, rfl⟩
      obtain ⟨g0, A0, c0, l0⟩ := x0
      have hmem : (⟨g0, A0, c0, l0⟩ : Cl) ∈ L := by rw [hL]; exact List.mem_cons_self ..
      have hBT := HG0.out.b _ hmem
      have hOB := HOB0.out _ hmem
      have hRL : RC wI (some ⟨gL, 0, none⟩) (clc L) := own_RC HG0.out.own
      have hkc : wI.cell? ⟨gL, 0, none⟩ = some (.int .i64 g0) ∧ wI.cell? ⟨gL, 1, none⟩ = some (.slice A0 l0.length c0) := by
        obtain ⟨b', o', e, hh⟩ := hRL.part (by rw [clc_length, HL3.out]; decide)
        cases e
        have e2 : clc L = [.int .i64 g0, .slice A0 l0.length c0] ++ clc LT := by rw [hL]; simp [clc, Cl.cells]
        rw [e2] at hh
        exact ⟨hh 0 _ rfl, hh 1 _ rfl⟩
      rw [HL3.out]
      obtain ⟨z, hz⟩ : ∃ z, z = wI.heap.size := ⟨_, rfl⟩
      obtain ⟨wa, hwa⟩ : ∃ wa, wa = wI.drew := ⟨_, rfl⟩
      obtain ⟨wb, hwb⟩ : ∃ wb, wb = wa.alloc (.cells #[] 5) := ⟨_, rfl⟩
      have hza : wa.heap.size = z := by rw [hwa, hz]; rfl
      have bIa : Below wI.heap.size wI wa := by rw [hwa]; exact (Below.refl _ _).drew
      have bab : Below wa.heap.size wa wb := by rw [hwb]; exact (Below.refl _ _).alloc (Nat.le_refl _) _
      have bIb := below_below bIa bIa.size bab
      have own0 : wb.ownsRow z 5 1 (.slice (some ⟨z, 0, none⟩) 0 0) 0 [] :=
        ⟨rfl, .inr ⟨z, 0, #[], rfl, Nat.le_refl _, by rw [hwb, ← hza]; exact heap_alloc_new wa _, Nat.le_refl _, by decide, rfl, rfl⟩⟩
      have hgL : gL < z := by rw [hz]; exact (World.ownsRow.lt HG0.out.own gL rfl).2
      have hgB : w1.heap.size ≤ gL := (World.ownsRow.lt HG0.out.own gL rfl).1
      have hl0 : l0.length ≤ 17000000 := hBT.le
      obtain ⟨vd, wc4, hrun4, own4, gr4, hat4⟩ := run_append_any (P := Try.prog) wb z 25 25 5 (.int .u8 0) 1 1 Try.underlying25 info8 rfl (by omega) (by omega) (.slice (some ⟨z, 0, none⟩) 0 0) 0 [] own0 A0 l0.length c0 (bv l0) (by rw [bv_length]; omega) (RC.below hBT.rc bIb) (bv_one _) (by omega) (by have := bIb.size; omega)
      rw [Nat.zero_add, List.nil_append] at own4
      obtain ⟨Ad, cd, rfl, hcd⟩ := own_slice own4
      have u4 : Upd (fun k => (Value.slice (some ⟨z, 0, none⟩) 0 0).ownBlock = some k) wb wc4 := (Upd.refl _ wb).grown gr4 (fun k hk _ => hk)
      have bI4 : Below wI.heap.size wI wc4 := below_upd bIb bIb.size u4 (fun k hk => by have := (World.ownsRow.lt own0 k hk).1; omega)
      obtain ⟨zc, hzc⟩ : ∃ zc, zc = wc4.heap.size := ⟨_, rfl⟩
      obtain ⟨x4, hx4⟩ : ∃ x4, x4 = (⟨g0, Ad, cd, l0⟩ : Cl) := ⟨_, rfl⟩
      obtain ⟨wd, hwd⟩ : ∃ wd, wd = wc4.alloc (.cells (clc [⟨g0, Ad, cd, l0⟩]).toArray 27) := ⟨_, rfl⟩
      have b4d : Below wc4.heap.size wc4 wd := by rw [hwd]; exact (Below.refl _ _).alloc (Nat.le_refl _) _
      have bId := below_below bI4 bI4.size b4d
      have hgG : ClsG wd w1.heap.size (.slice (some ⟨gL, 0, none⟩) 3 cv) L := by
        have h := HG0.out.below bId
        rwa [HL3.out] at h
      have ownL : wd.ownsRow w1.heap.size 27 2 (.slice (some ⟨gL, 0, none⟩) 3 cv) 3 (clc L) := by
        have h := hgG.own
        rwa [HL3.out] at h
      have hone : ∀ u, u ∈ clc [(⟨g0, Ad, cd, l0⟩ : Cl)] → u.oneCell' = true := by
        intro u hu
        obtain ⟨x, _, hu⟩ := List.mem_flatMap.1 hu
        simp only [Cl.cells, List.mem_cons, List.not_mem_nil, or_false] at hu
        rcases hu with rfl | rfl <;> rfl
      obtain ⟨ve, we, hrun8, own8, gr8, hat8⟩ := run_append_any (P := Try.prog) wd w1.heap.size 30 30 27 (.agg #[.int .i64 0, .slice none 0 0]) 2 32 Try.underlying30 infoCla rfl (by omega) (by omega) (.slice (some ⟨gL, 0, none⟩) 3 cv) 3 (clc L) ownL (some ⟨zc, 0, none⟩) 1 1 (clc [⟨g0, Ad, cd, l0⟩]) rfl (by rw [hwd, hzc]; exact RC_newL wc4 _ _) hone (by omega) (by have := HB0.out.size; have := bId.size; omega)
      obtain ⟨Ae, ce, rfl, hce⟩ := own_slice own8
      have u8 : Upd (fun k => (Value.slice (some ⟨gL, 0, none⟩) 3 cv).ownBlock = some k) wd we := (Upd.refl _ wd).grown gr8 (fun k hk _ => hk)
      have hdz : ∀ k, (Value.slice Ad l0.length cd).ownBlock = some k → z ≤ k ∧ k < wc4.heap.size := fun k hk => World.ownsRow.lt own4 k hk
      have hBT4 : BtG wd w1.heap.size (.slice (some ⟨gL, 0, none⟩) 3 cv) ⟨g0, Ad, cd, l0⟩ := by
        refine ⟨RC.below (own_RC own4) b4d, own_nil own4, hl0, fun h0 ad e => ?_⟩
        have e2 : Ad = some ad := e
        have h1 := hdz ad.block (by rw [e2]; rfl)
        have h2 := b4d.size
        refine ⟨by omega, by omega, fun h5 => ?_⟩
        have h6 : gL = ad.block := Option.some.inj h5
        omega
      have hCG : ClsG we w1.heap.size (.slice Ae 4 ce) (L ++ [⟨g0, Ad, cd, l0⟩]) := by
        refine hgG.push hBT4 ?_ u8 hat8 (Nat.le_refl _)
        rw [HL3.out]
        have e : clc [(⟨g0, Ad, cd, l0⟩ : Cl)] = (⟨g0, Ad, cd, l0⟩ : Cl).cells := by simp [clc]
        rw [← e]
        exact own8
      have hOA : ∀ x ∈ L ++ [(⟨g0, Ad, cd, l0⟩ : Cl)], OwnB we w1.heap.size x := by
        intro x hx
        rcases List.mem_append.1 hx with h | h
        · exact ((HOB0.out x h).below bId).upd u8 (own_off ((HOB0.out x h).below bId) (hgG.b x h))
        · rw [List.mem_singleton.1 h]
          have hz1 : w1.heap.size ≤ z := by omega
          have h4 : OwnB wd w1.heap.size ⟨g0, Ad, cd, l0⟩ := ⟨own_below (own_lower own4 hz1) b4d, hOB.ge⟩
          exact h4.upd u8 (own_off h4 hBT4)
      have bIe : Below w1.heap.size w1 we := below_upd (below_below HB0.out HB0.out.size bId) (by have := HB0.out.size; have := bId.size; omega) u8 (fun k hk => by have h6 : gL = k := Option.some.inj hk; omega)
      have KC := Lib.hid (show ∀ W, Below wI.heap.size wI W → (W.cell? ⟨gL, 0, none⟩ = some (.int .i64 g0) ∧ W.cell? ⟨gL, 1, none⟩ = some (.slice A0 l0.length c0)) from fun W hW => ⟨cell_below hW hkc.1, cell_below hW hkc.2⟩)
      have HWB := Lib.hid hwb
      have HZ := Lib.hid hza
      have HWA := Lib.hid hwa
      have HWD := Lib.hid hwd
      have HZC := Lib.hid hzc
      have HRUN4 := Lib.hid hrun4
      have HRUN8 := Lib.hid hrun8
      have BIA := Lib.hid bIa
      have BIB := Lib.hid bIb
      have BI4 := Lib.hid bI4
      have HCG := Lib.hid hCG
      have HOA := Lib.hid hOA
      have BIE := Lib.hid bIe
      have HL4 := Lib.hid (show (L ++ [(⟨g0, Ad, cd, l0⟩ : Cl)]).length = 4 by rw [List.length_append, HL3.out]; rfl)
      clear hwa hwb hza bIa bab bIb own0 hRL hone hrun4 own4 gr4 hat4 hcd u4 bI4 hrun8 own8 gr8 hat8 hce u8 bId b4d hz hgL hgB hl0 hmem hBT hOB hkc hwd hzc hgG ownL hdz hBT4 hCG hOA bIe hL hx4 x4
      go_upto_region 20 with fail
      go_cut [15] (fun s15 wx => ∃ (A5 : Option Addr) (c5 : Nat) (L5 : List Cl), s15 = .slice A5 4 c5 ∧ L5.length = 4 ∧ ClsG wx w1.heap.size (.slice A5 4 c5) L5 ∧ (∀ x ∈ L5, OwnB wx w1.heap.size x) ∧ Below w1.heap.size w1 wx)
      case first =>
        refine region_byD (TTl5 wa wb wc4 wd we) [(fun v _ => v = .slice (some ⟨gL, 0, none⟩) 3 cv), (fun v _ => v = .slice (some ⟨gL, 0, none⟩) 3 cv), (fun v _ => v = .pointer (some ⟨gL, 0, none⟩)), (fun v _ => v = .pointer (some ⟨gL, 0, none⟩)), fun v _ => v = .int .i64 g0, fun v _ => v = .slice (some ⟨z, 0, none⟩) 0 0, (fun v _ => v = .slice (some ⟨gL, 0, none⟩) 3 cv), (fun v _ => v = .pointer (some ⟨gL, 0, none⟩)), (fun v _ => v = .pointer (some ⟨gL, 1, none⟩)), fun v _ => v = .slice A0 l0.length c0, fun v _ => v = .slice Ad l0.length cd, (fun v _ => v = .agg #[.int .i64 g0, .slice Ad l0.length cd]), fun v _ => v = .slice (some ⟨zc, 0, none⟩) 1 1, fun v _ => v = .slice Ae 4 ce, (fun v _ => v = .slice Ae 4 ce)] (by kernel_rfl) (by kernel_rfl) (by kernel_rfl) rfl (⟨HWA.out.symm⟩) ?ok20 ?fin20
        case ok20 =>
          refine ⟨?_, ?_, ?_, ?_, ?_, ?_, ?_, ?_, ?_, ?_, ?_, ?_, ?_, ?_, ?_, trivial⟩
          · intro l a' w' K hI hcl hsz hn hdn hd hq hK
            have e15 : a'.eval (.tmp 15) = .slice (some ⟨gL, 0, none⟩) 3 cv := (hq 15 (by kernel_rfl)).trans rfl
            clear hd hq hcl hsz hn hdn
            refine op_value (wanted_free _ _ (by rfl)) (v := .slice (some ⟨gL, 0, none⟩) 3 cv) (w'' := w') ?_ (hK _ _ (hI.set _) (fun _ _ _ h => h) rfl)
            clear hK
            simp only [execOp, e15]
            have f15 : a'.tmps[15]?.getD undef = .slice (some ⟨gL, 0, none⟩) 3 cv := (Array.getD_eq_getD_getElem? ..).symm.trans e15
            clear e15
            first | rfl | (go_simp <;> exact IntWalk.i64_in _ (by omega))
          · intro l a' w' K hI hcl hsz hn hdn hd hq hK
            have e15 : a'.eval (.tmp 15) = .slice (some ⟨gL, 0, none⟩) 3 cv := (hq 15 (by kernel_rfl)).trans rfl
            clear hd hq hcl hsz hn hdn
            refine op_value (wanted_free _ _ (by rfl)) (v := .slice (some ⟨gL, 0, none⟩) 3 cv) (w'' := w') ?_ (hK _ _ (hI.set _) (fun _ _ _ h => h) rfl)
            clear hK
            simp only [execOp, e15]
            have f15 : a'.tmps[15]?.getD undef = .slice (some ⟨gL, 0, none⟩) 3 cv := (Array.getD_eq_getD_getElem? ..).symm.trans e15
            clear e15
            first | rfl | (go_simp <;> exact IntWalk.i64_in _ (by omega))
          · intro l a' w' K hI hcl hsz hn hdn hd hq hK
            have e86 : a'.eval (.tmp 86) = .slice (some ⟨gL, 0, none⟩) 3 cv := (hd 1 86 (by kernel_rfl))
            clear hd hq hcl hsz hn hdn
            refine op_value (wanted_free _ _ (by rfl)) (v := .pointer (some ⟨gL, 0, none⟩)) (w'' := w') ?_ (hK _ _ (hI.set _) (fun _ _ _ h => h) rfl)
            clear hK
            simp only [execOp, e86]
            have f86 : a'.tmps[86]?.getD undef = .slice (some ⟨gL, 0, none⟩) 3 cv := (Array.getD_eq_getD_getElem? ..).symm.trans e86
            clear e86
            first | rfl | (go_simp <;> exact IntWalk.i64_in _ (by omega))
          · intro l a' w' K hI hcl hsz hn hdn hd hq hK
            have e87 : a'.eval (.tmp 87) = .pointer (some ⟨gL, 0, none⟩) := (hd 2 87 (by kernel_rfl))
            clear hd hq hcl hsz hn hdn
            refine op_value (wanted_free _ _ (by rfl)) (v := .pointer (some ⟨gL, 0, none⟩)) (w'' := w') ?_ (hK _ _ (hI.set _) (fun _ _ _ h => h) rfl)
            clear hK
            simp only [execOp, e87]
            have f87 : a'.tmps[87]?.getD undef = .pointer (some ⟨gL, 0, none⟩) := (Array.getD_eq_getD_getElem? ..).symm.trans e87
            clear e87
            first | rfl | (go_simp <;> exact IntWalk.i64_in _ (by omega))
          · intro l a' w' K hI hcl hsz hn hdn hd hq hK
            have e88 : a'.eval (.tmp 88) = .pointer (some ⟨gL, 0, none⟩) := (hd 3 88 (by kernel_rfl))
            clear hd hq
            have h11 : l.getD 11 false = false := hcl 11 4 (by kernel_rfl) hn
            have h12 : l.getD 12 false = false := hcl 12 11 (by kernel_rfl) h11
            have h13 : l.getD 13 false = false := hcl 13 12 (by kernel_rfl) h12
            have hc := wTl5_at (P := fun W => W.cell? ⟨gL, 0, none⟩ = some (.int .i64 g0) ∧ W.cell? ⟨gL, 1, none⟩ = some (.slice A0 l0.length c0)) h12 h13 (KC.out wa BIA.out) (KC.out wb BIB.out) (KC.out wc4 BI4.out) hI.eq
            refine op_value (wanted_free _ _ (by rfl)) (v := .int .i64 g0) (w'' := w') ?_ (hK _ _ (hI.set _) (fun _ _ _ h => h) rfl)
            obtain ⟨hc0, hc1⟩ := hc
            clear hK hcl hsz hn hdn h11 h12 h13 hI
            simp only [execOp, e88]
            have f88 : a'.tmps[88]?.getD undef = .pointer (some ⟨gL, 0, none⟩) := (Array.getD_eq_getD_getElem? ..).symm.trans e88
            clear e88
            go_simp
          · intro l a' w' K hI hcl hsz hn hdn hd hq hK
            clear hd hq
            have h10 : l.getD 10 false = false := hcl 10 5 (by kernel_rfl) hn
            have h11 : l.getD 11 false = false := hcl 11 10 (by kernel_rfl) h10
            have h12 : l.getD 12 false = false := hcl 12 11 (by kernel_rfl) h11
            have h13 : l.getD 13 false = false := hcl 13 12 (by kernel_rfl) h12
            have hee : w' = wa := by have := hI.eq; unfold wTl5 at this; rwa [hn, h10, h12, h13] at this
            rw [hee]
            refine op_value (wanted_free _ _ (by rfl)) (v := .slice (some ⟨z, 0, none⟩) 0 0) (w'' := wb) ?_ (hK _ _ ⟨by unfold wTl5; rw [getD_setT5 l (by decide : (13 : Nat) ≠ 5), getD_setT5 l (by decide : (12 : Nat) ≠ 5), getD_setT5 l (by decide : (10 : Nat) ≠ 5), h13, h12, h10, setTrue (by rw [hsz]; exact of_decide_eq_true (by kernel_rfl))]; rfl⟩ (by rw [hee]; exact (fun j u => by match j with | 0 | 1 | 2 | 3 | 4 | 5 | 6 | 7 | 8 | 9 | 10 | 11 | 12 | 13 | 14 => exact fun _ h => h | _ + 15 => exact fun _ _ => trivial)) rfl)
            clear hK
            rw [HWB.out]
            simp only [execOp]
            go_simp
            all_goals first | exact HZ.out | rfl | skip
          · intro l a' w' K hI hcl hsz hn hdn hd hq hK
            have e15 : a'.eval (.tmp 15) = .slice (some ⟨gL, 0, none⟩) 3 cv := (hq 15 (by kernel_rfl)).trans rfl
            clear hd hq hcl hsz hn hdn
            refine op_value (wanted_free _ _ (by rfl)) (v := .slice (some ⟨gL, 0, none⟩) 3 cv) (w'' := w') ?_ (hK _ _ (hI.set _) (fun _ _ _ h => h) rfl)
            clear hK
            simp only [execOp, e15]
            have f15 : a'.tmps[15]?.getD undef = .slice (some ⟨gL, 0, none⟩) 3 cv := (Array.getD_eq_getD_getElem? ..).symm.trans e15
            clear e15
            first | rfl | (go_simp <;> exact IntWalk.i64_in _ (by omega))
          · intro l a' w' K hI hcl hsz hn hdn hd hq hK
            have e91 : a'.eval (.tmp 91) = .slice (some ⟨gL, 0, none⟩) 3 cv := (hd 6 91 (by kernel_rfl))
            clear hd hq hcl hsz hn hdn
            refine op_value (wanted_free _ _ (by rfl)) (v := .pointer (some ⟨gL, 0, none⟩)) (w'' := w') ?_ (hK _ _ (hI.set _) (fun _ _ _ h => h) rfl)
            clear hK
            simp only [execOp, e91]
            have f91 : a'.tmps[91]?.getD undef = .slice (some ⟨gL, 0, none⟩) 3 cv := (Array.getD_eq_getD_getElem? ..).symm.trans e91
            clear e91
            first | rfl | (go_simp <;> exact IntWalk.i64_in _ (by omega))
          · intro l a' w' K hI hcl hsz hn hdn hd hq hK
            have e92 : a'.eval (.tmp 92) = .pointer (some ⟨gL, 0, none⟩) := (hd 7 92 (by kernel_rfl))
            clear hd hq hcl hsz hn hdn
            refine op_value (wanted_free _ _ (by rfl)) (v := .pointer (some ⟨gL, 1, none⟩)) (w'' := w') ?_ (hK _ _ (hI.set _) (fun _ _ _ h => h) rfl)
            clear hK
            simp only [execOp, e92]
            have f92 : a'.tmps[92]?.getD undef = .pointer (some ⟨gL, 0, none⟩) := (Array.getD_eq_getD_getElem? ..).symm.trans e92
            clear e92
            first | rfl | (go_simp <;> exact IntWalk.i64_in _ (by omega))
          · intro l a' w' K hI hcl hsz hn hdn hd hq hK
            have e93 : a'.eval (.tmp 93) = .pointer (some ⟨gL, 1, none⟩) := (hd 8 93 (by kernel_rfl))
            clear hd hq
            have h10 : l.getD 10 false = false := hcl 10 9 (by kernel_rfl) hn
            have h11 : l.getD 11 false = false := hcl 11 10 (by kernel_rfl) h10
            have h12 : l.getD 12 false = false := hcl 12 11 (by kernel_rfl) h11
            have h13 : l.getD 13 false = false := hcl 13 12 (by kernel_rfl) h12
            have hc := wTl5_at (P := fun W => W.cell? ⟨gL, 0, none⟩ = some (.int .i64 g0) ∧ W.cell? ⟨gL, 1, none⟩ = some (.slice A0 l0.length c0)) h12 h13 (KC.out wa BIA.out) (KC.out wb BIB.out) (KC.out wc4 BI4.out) hI.eq
            refine op_value (wanted_free _ _ (by rfl)) (v := .slice A0 l0.length c0) (w'' := w') ?_ (hK _ _ (hI.set _) (fun _ _ _ h => h) rfl)
            obtain ⟨hc0, hc1⟩ := hc
            clear hK hcl hsz hn hdn h11 h12 h13 hI
            simp only [execOp, e93]
            have f93 : a'.tmps[93]?.getD undef = .pointer (some ⟨gL, 1, none⟩) := (Array.getD_eq_getD_getElem? ..).symm.trans e93
            clear e93
            go_simp
          · intro l a' w' K hI hcl hsz hn hdn hd hq hK
            have e90 : a'.eval (.tmp 90) = .slice (some ⟨z, 0, none⟩) 0 0 := (hd 5 90 (by kernel_rfl))
            have e94 : a'.eval (.tmp 94) = .slice A0 l0.length c0 := (hd 9 94 (by kernel_rfl))
            clear hd hq
            have h5 : l.getD 5 false = true := hdn 5 (by kernel_rfl)
            have h11 : l.getD 11 false = false := hcl 11 10 (by kernel_rfl) hn
            have h12 : l.getD 12 false = false := hcl 12 11 (by kernel_rfl) h11
            have h13 : l.getD 13 false = false := hcl 13 12 (by kernel_rfl) h12
            have hee : w' = wb := by have := hI.eq; unfold wTl5 at this; rwa [hn, h5, h12, h13] at this
            subst hee
            refine op_value (wanted_free _ _ (by rfl)) (v := .slice Ad l0.length cd) (w'' := wc4) ?_ (hK _ _ ⟨by unfold wTl5; rw [getD_setT5 l (by decide : (13 : Nat) ≠ 10), getD_setT5 l (by decide : (12 : Nat) ≠ 10), h13, h12, setTrue (by rw [hsz]; exact of_decide_eq_true (by kernel_rfl))]; rfl⟩ (fun j u => by match j with | 0 | 1 | 2 | 3 | 4 | 5 | 6 | 7 | 8 | 9 | 10 | 11 | 12 | 13 | 14 => exact fun _ h => h | _ + 15 => exact fun _ _ => trivial) rfl)
            clear hK
            simp only [execOp, resolve, invoke, builtin, Sem.run_bind, Sem.run_pure, Result.andThen_ok, List.map_toArray, List.map_cons, List.map_nil, e90, e94, HRUN4.out]
          · intro l a' w' K hI hcl hsz hn hdn hd hq hK
            have e89 : a'.eval (.tmp 89) = .int .i64 g0 := (hd 4 89 (by kernel_rfl))
            have e95 : a'.eval (.tmp 95) = .slice Ad l0.length cd := (hd 10 95 (by kernel_rfl))
            clear hd hq hcl hsz hn hdn
            refine op_value (wanted_free _ _ (by rfl)) (v := .agg #[.int .i64 g0, .slice Ad l0.length cd]) (w'' := w') ?_ (hK _ _ (hI.set _) (fun _ _ _ h => h) rfl)
            clear hK
            simp only [execOp, e89, e95]
            have f89 : a'.tmps[89]?.getD undef = .int .i64 g0 := (Array.getD_eq_getD_getElem? ..).symm.trans e89
            have f95 : a'.tmps[95]?.getD undef = .slice Ad l0.length cd := (Array.getD_eq_getD_getElem? ..).symm.trans e95
            clear e89 e95
            first | rfl | (go_simp <;> exact IntWalk.i64_in _ (by omega))
          · intro l a' w' K hI hcl hsz hn hdn hd hq hK
            have e96 : a'.eval (.tmp 96) = .agg #[.int .i64 g0, .slice Ad l0.length cd] := (hd 11 96 (by kernel_rfl))
            clear hd hq
            have h11 : l.getD 11 false = true := hdn 11 (by kernel_rfl)
            have h10 : l.getD 10 false = true := by
              cases h : l.getD 10 false with
              | true => rfl
              | false =>
                have h2 := hcl 11 10 (by kernel_rfl) h
                rw [h11] at h2
                cases h2
            have h13 : l.getD 13 false = false := hcl 13 12 (by kernel_rfl) hn
            have hee : w' = wc4 := by have := hI.eq; unfold wTl5 at this; rwa [hn, h10, h13] at this
            subst hee
            refine op_buildSlice (wanted_free _ _ (by rfl)) 30 27 1 _ rfl Try.underlying30 (clc [⟨g0, Ad, cd, l0⟩]).toArray (by simp only [List.map_toArray, List.map_cons, List.map_nil, e96]; exact builtC1 ⟨g0, Ad, cd, l0⟩) ?_
            rw [← HWD.out]
            exact hK _ _ ⟨by unfold wTl5; rw [getD_setT5 l (by decide : (13 : Nat) ≠ 12), h13, setTrue (by rw [hsz]; exact of_decide_eq_true (by kernel_rfl))]; rfl⟩ (fun j u => by match j with | 0 | 1 | 2 | 3 | 4 | 5 | 6 | 7 | 8 | 9 | 10 | 11 | 12 | 13 | 14 => exact fun _ h => h | _ + 15 => exact fun _ _ => trivial) (by rw [HZC.out]; rfl)
          · intro l a' w' K hI hcl hsz hn hdn hd hq hK
            have e85 : a'.eval (.tmp 85) = .slice (some ⟨gL, 0, none⟩) 3 cv := (hd 0 85 (by kernel_rfl))
            have e97 : a'.eval (.tmp 97) = .slice (some ⟨zc, 0, none⟩) 1 1 := (hd 12 97 (by kernel_rfl))
            clear hd hq
            have h12 : l.getD 12 false = true := hdn 12 (by kernel_rfl)
            have hee : w' = wd := by have := hI.eq; unfold wTl5 at this; rwa [hn, h12] at this
            subst hee
            refine op_value (wanted_free _ _ (by rfl)) (v := .slice Ae 4 ce) (w'' := we) ?_ (hK _ _ ⟨by unfold wTl5; rw [setTrue (by rw [hsz]; exact of_decide_eq_true (by kernel_rfl))]; rfl⟩ (fun j u => by match j with | 0 | 1 | 2 | 3 | 4 | 5 | 6 | 7 | 8 | 9 | 10 | 11 | 12 | 13 | 14 => exact fun _ h => h | _ + 15 => exact fun _ _ => trivial) rfl)
            clear hK
            simp only [execOp, resolve, invoke, builtin, Sem.run_bind, Sem.run_pure, Result.andThen_ok, List.map_toArray, List.map_cons, List.map_nil, e85, e97, HRUN8.out]
          · intro l a' w' K hI hcl hsz hn hdn hd hq hK
            have e98 : a'.eval (.tmp 98) = .slice Ae 4 ce := (hd 13 98 (by kernel_rfl))
            clear hd hq hcl hsz hn hdn
            refine op_value (wanted_free _ _ (by rfl)) (v := .slice Ae 4 ce) (w'' := w') ?_ (hK _ _ (hI.set _) (fun _ _ _ h => h) rfl)
            clear hK
            simp only [execOp, e98]
            have f98 : a'.tmps[98]?.getD undef = .slice Ae 4 ce := (Array.getD_eq_getD_getElem? ..).symm.trans e98
            clear e98
            first | rfl | (go_simp <;> exact IntWalk.i64_in _ (by omega))
        case fin20 =>
          rintro l w' hsz hall hI _ rfl _ rfl _ rfl _ rfl _ rfl _ rfl _ rfl _ rfl _ rfl _ rfl _ rfl _ rfl _ rfl _ rfl _ rfl
          simp only [Act.put, List.setIfInBounds_toArray, List.set_cons_zero, List.set_cons_succ, FinGoal]
          have hwe : w' = we := hI.eq.trans (by unfold wTl5; rw [hall 13 (of_decide_eq_true (by kernel_rfl))]; rfl)
          clear hI
          subst hwe
          go_wp2_with fail
          go_meet
          exact ⟨Ae, ce, _, rfl, HL4.out, HCG.out, HOA.out, BIE.out⟩
      case rest =>
        obtain ⟨A5, c5, L5, rfl, h5, hcg, hoa, hbe⟩ := hcut
        rename World => wE
        have HL5 := Lib.hid h5
        have HCG5 := Lib.hid hcg
        have HOA5 := Lib.hid hoa
        have HBE5 := Lib.hid hbe
        clear h5 hcg hoa hbe HCG HOA BIE HL4 HRUN4 HRUN8 KC BIA BIB BI4 HWB HZ HWA HWD HZC
        go_upto_if 100 with fail
        go_cut [] (fun wx => ∃ L6 : List Cl, L6.length = 4 ∧ ClsAt wx A5 L6 ∧ Below w1.heap.size w1 wx)
        case first =>
          by_cases ht : 127 < un8 tu
          · obtain ⟨k, hk⟩ := Int.eq_ofNat_of_zero_le (withinOf_range at' 0 3 (by omega)).1
            have hk2 := (withinOf_range at' 0 3 (by omega)).2
            go_wp2_with fail
            refine (within_any at' 0 3 _ (by omega) (by omega) (by omega) (by omega)).mono ?_
            rw [hk] at hk2 ⊢
            rintro e w8 ⟨rfl, rfl⟩
            have hk4 : k < L5.length := by have := HL5.out; omega
            obtain ⟨x, hx⟩ : ∃ x, L5[k]? = some x := ⟨_, List.getElem?_eq_getElem hk4⟩
            have hmx : x ∈ L5 := List.mem_of_getElem? hx
            obtain ⟨b5, o5, rfl, e5⟩ := HCG5.out.at_.r.part (by rw [clc_length, HL5.out]; decide)
            have q0 : wE.cell? ⟨b5, o5 + k * 2 + 1, none⟩ = some (.slice x.A x.l.length x.c) := by
              rw [Nat.add_assoc]
              exact e5 _ _ (clc_get L5 k x hx 1 (by omega))
            have HOX := Lib.hid (HOA5.out x hmx)
            have HBX := Lib.hid (HCG5.out.b x hmx)
            obtain ⟨xg, xA, xc, xl⟩ := x
            dsimp only at q0
            obtain ⟨gx, cx, eX, hgx, hcx⟩ := own_form HOX.out.own (by have := HOX.out.ge; omega)
            dsimp only at eX hcx
            obtain ⟨rfl, -, rfl⟩ : xA = some ⟨gx, 0, none⟩ ∧ True ∧ xc = cx := by
              injection eX with e1 e2 e3
              exact ⟨e1, trivial, e3⟩
            have hge : 4 ≤ xl.length := HOX.out.ge
            have hle : xl.length ≤ 17000000 := HBX.out.le
            have hoff : b5 ≠ gx := by
              intro e
              have h := (HBX.out.off (by dsimp only; omega) ⟨gx, 0, none⟩ rfl).2.2
              exact h (by rw [e]; rfl)
            have k0 : (0 : Int) ≤ (k : Int) := by omega
            have k3 : (k : Int) < 4 := by omega
            have haw : IntKind.i64.wrap (at'.tdiv 4) = at'.tdiv 4 := by
              have h1 := Int.mul_tdiv_add_tmod at' 4
              have h2 := tmod_range at' 4 (by omega)
              have h3 := HA0.out.1
              have h4 := HA0.out.2
              rw [IntKind.wrap_i64]
              omega
            have hw2 : IntKind.i64.wrap ((xl.length : Int) - 1) = (xl.length : Int) - 1 := by rw [IntKind.wrap_i64]; omega
            obtain ⟨j, hj⟩ := Int.eq_ofNat_of_zero_le (withinOf_range (at'.tdiv 4) 0 ((xl.length : Int) - 1) (by omega)).1
            have hj2 := (withinOf_range (at'.tdiv 4) 0 ((xl.length : Int) - 1) (by omega)).2
            rw [hj] at hj2
            have hjX : j < xl.length := by omega
            have cz := own_byte HOX.out.own j hjX
            have fz := World.ownsRow.frozenAt HOX.out.own j
            obtain ⟨y0, hy0⟩ : ∃ y0, y0 = xl[j] := ⟨_, rfl⟩
            dsimp only at cz
            rw [← hy0] at cz
            have hxor : bits .xor .u8 (un8 y0) (un8 tu) = un8 (y0 ^^^ tu) := xor8 y0 tu
            obtain ⟨y1, hy1⟩ : ∃ y1, y1 = y0 ^^^ tu := ⟨_, rfl⟩
            rw [← hy1] at hxor
            have HFIN := Lib.hid (show ∃ L6 : List Cl, L6.length = 4 ∧ ClsAt (wE.setCell ⟨gx, j, none⟩ (.int .u8 (un8 y1))) (some ⟨b5, o5, none⟩) L6 ∧ Below w1.heap.size w1 (wE.setCell ⟨gx, j, none⟩ (.int .u8 (un8 y1))) by
              obtain ⟨L6, h1, h2⟩ := cls_turn HCG5.out.at_ gx j y1 (fun _ ad e => by cases e; exact hoff)
              exact ⟨L6, h1.trans HL5.out, h2, HBE5.out.setCell hgx _⟩)
            have j0 : (0 : Int) ≤ (j : Int) := by omega
            have j1 : (j : Int) < (xl.length : Int) := by omega
            have j3 : (j : Int) ≤ (xc : Int) := by omega
            have HJ := Lib.hid hj
            have HGE := Lib.hid hge
            clear hk hk2 hk4 hx hmx e5 HOX HBX eX hgx hcx hoff hj hj2 hjX hy0 hy1
            go_wp2_with fail
            refine (within_any (at'.tdiv 4) 0 ((xl.length : Int) - 1) _ (by omega) (by omega) (by omega) (by omega)).mono ?_
            rw [HJ.out]
            rintro e w9 ⟨rfl, rfl⟩
            go_wp2_with fail
            go_meet
            exact HFIN.out
          · go_wp2_with fail
            go_meet
            exact ⟨L5, HL5.out, HCG5.out.at_, HBE5.out⟩
        case rest =>
          obtain ⟨L, hl4, hcls, hbw⟩ := hcut
          rename World => wr
          have HL := Lib.hid hl4
          have HCLS := Lib.hid hcls
          have HBW := Lib.hid hbw
          clear hl4 hcls hbw HCG5 HOA5 HL5 HBE5
          go_wp2_with fail
          refine (verify_p A5 4 c5 L wr HL.out (by decide) HCLS.out).mono ?_
          obtain ⟨f, hf⟩ : ∃ f, f = verP (L.map Cl.p) := ⟨_, rfl⟩
          rw [← hf]
          have HF := Lib.hid hf
          obtain ⟨f0, f1, f2⟩ := f
          dsimp only
          rintro e w2 ⟨rfl, hb2⟩
          have hb3 : Below w2.heap.size w2 (w2.alloc (.cells #[.int .i64 f0, .int .i64 f1, .int .i64 f2] 33)) := (Below.refl _ _).alloc (Nat.le_refl _) _
          have hx3 := heap_alloc_new w2 (.cells #[.int .i64 f0, .int .i64 f1, .int .i64 f2] 33)
          obtain ⟨w3, hw3⟩ : ∃ w3, w3 = w2.alloc (.cells #[.int .i64 f0, .int .i64 f1, .int .i64 f2] 33) := ⟨_, rfl⟩
          rw [← hw3] at hb3 hx3
          obtain ⟨n2, hn2⟩ : ∃ n2, n2 = w2.heap.size := ⟨_, rfl⟩
          rw [← hn2] at hx3
          have B3 := Lib.hid (below_below hb2 hb2.size hb3)
          have KA := Lib.hid (show ∀ W, Below w3.heap.size w3 W → W.cell? ⟨n2, 0, none⟩ = some (.int .i64 f0) ∧ W.cell? ⟨n2, 1, none⟩ = some (.int .i64 f1) ∧ W.cell? ⟨n2, 2, none⟩ = some (.int .i64 f2) from fun W hW =>
            ⟨cell_below hW ((cell_of_row w3 n2 0 _ _ _ hx3).trans rfl), cell_below hW ((cell_of_row w3 n2 1 _ _ _ hx3).trans rfl), cell_below hW ((cell_of_row w3 n2 2 _ _ _ hx3).trans rfl)⟩)
          have HW3 := Lib.hid hw3
          have HN2 := Lib.hid hn2
          clear hf hb2 hb3 hx3 hw3 hn2
          go_upto_region 26 with fail
          rw [show w2.alloc (.cells #[.int .i64 f0, .int .i64 f1, .int .i64 f2] 33) = w3 from HW3.out.symm, ← HN2.out]
          go_wp2_with fail
          refine (in_any A5 4 c5 L w3 HL.out (by decide) (HCLS.out.below B3.out)).mono ?_
          rintro e w4 ⟨A4, c4, L4, rfl, hgl, hc4, hcap4, hb4⟩
          have HGL := Lib.hid hgl
          have HC4 := Lib.hid hc4
          have HCAP4 := Lib.hid hcap4
          have B34 := Lib.hid hb4
          have HL4 := Lib.hid (show L4.length ≤ 10 by have h := congrArg List.length hgl; simp at h; have := HL.out; omega)
          clear hgl hc4 hcap4 hb4
          go_wp2_with fail
          refine (refVerify_any A4 L4.length c4 L4 w4 rfl (by have := HL4.out; omega) HC4.out HCAP4.out).mono ?_
          rw [gl_p HGL.out, ← HF.out]
          dsimp only
          rintro e w5 ⟨rfl, hb5⟩
          have hb6 : Below w5.heap.size w5 (w5.alloc (.cells #[.int .i64 f0, .int .i64 f1, .int .i64 f2] 36)) := (Below.refl _ _).alloc (Nat.le_refl _) _
          have hx6 := heap_alloc_new w5 (.cells #[.int .i64 f0, .int .i64 f1, .int .i64 f2] 36)
          obtain ⟨w6, hw6⟩ : ∃ w6, w6 = w5.alloc (.cells #[.int .i64 f0, .int .i64 f1, .int .i64 f2] 36) := ⟨_, rfl⟩
          rw [← hw6] at hb6 hx6
          obtain ⟨n5, hn5⟩ : ∃ n5, n5 = w5.heap.size := ⟨_, rfl⟩
          rw [← hn5] at hx6
          have B36 := Lib.hid (below_below B34.out B34.out.size (below_below hb5 hb5.size hb6))
          have B6 := Lib.hid (below_below B3.out B3.out.size B36.out)
          have HW6 := Lib.hid hw6
          have HN5 := Lib.hid hn5
          have HX6 := Lib.hid hx6
          clear hb5 hb6 hx6 hw6 hn5
          go_upto_region 27 with fail
          rw [show w5.alloc (.cells #[.int .i64 f0, .int .i64 f1, .int .i64 f2] 36) = w6 from HW6.out.symm, ← HN5.out]
          obtain ⟨k0, k1, k2⟩ := KA.out w6 B36.out
          have j0 : w6.cell? ⟨n5, 0, none⟩ = some (.int .i64 f0) := (cell_of_row w6 n5 0 _ _ _ HX6.out).trans rfl
          have j1 : w6.cell? ⟨n5, 1, none⟩ = some (.int .i64 f1) := (cell_of_row w6 n5 1 _ _ _ HX6.out).trans rfl
          have j2 : w6.cell? ⟨n5, 2, none⟩ = some (.int .i64 f2) := (cell_of_row w6 n5 2 _ _ _ HX6.out).trans rfl
          generalize (f0 == 0) = bq at *
          go_wp2_with fail
          refine (outcomes_any A5 4 c5 L [116] w6 HL.out (by decide) (HCLS.out.below B6.out)).mono ?_
          rintro e w7' ⟨Ao, co, rfl, hb7, ho7⟩
          have B7 := Lib.hid (below_below B6.out B6.out.size hb7)
          have HO7 := Lib.hid ho7
          clear hb7 ho7 k0 k1 k2 j0 j1 j2
          go_wp2_with fail
          refine (in_any A5 4 c5 L w7' HL.out (by decide) (HCLS.out.below B7.out)).mono ?_
          rintro e w8' ⟨A8, c8, L8, rfl, hgl, hc8, hcap8, hb8⟩
          have HGL8 := Lib.hid hgl
          have HC8 := Lib.hid hc8
          have HCAP8 := Lib.hid hcap8
          have B8 := Lib.hid (below_below B7.out B7.out.size hb8)
          have HO8 := Lib.hid (HO7.out.below hb8)
          have HL8 := Lib.hid (show L8.length ≤ 10 by have h := congrArg List.length hgl; simp at h; have := HL.out; omega)
          clear hgl hc8 hcap8 hb8
          go_wp2_with fail
          refine (refOutcomes_any A8 L8.length c8 L8 [116] w8' rfl (by have := HL8.out; omega) HC8.out HCAP8.out).mono ?_
          rw [gl_out HGL8.out [116]]
          rintro e w9' ⟨Ap, cp, rfl, hb9, ho9⟩
          have B9 := Lib.hid (below_below B8.out B8.out.size hb9)
          have HO9 := Lib.hid (HO8.out.below hb9)
          have HOP := Lib.hid ho9
          have HOL := Lib.hid (show (outS [116] L).length ≤ 100000000 by unfold outS; split <;> split <;> simp)
          clear hb9 ho9
          generalize outS [116] L = zo at *
          go_wp2_with fail
          refine (sameI_any Ao Ap zo.length zo.length co cp zo zo w9' rfl rfl HOL.out HO9.out HOP.out).mono ?_
          rw [decide_eq_true (rfl : zo = zo)]
          rintro e wA ⟨rfl, hbA⟩
          have BA := Lib.hid (below_below HBW.out HBW.out.size (below_below B9.out B9.out.size hbA))
          clear hbA
          go_wp2_with fail
          refine (known_any wA).mono ?_
          rintro e wK ⟨rfl, hbK⟩
          have BK := Lib.hid (below_below BA.out BA.out.size hbK)
          clear hbK
          go_wp2_with fail
          go_ret
          exact ⟨rfl, below_below B01.out B01.out.size BK.out⟩
end Go.Proofs.Ytjakhemolecbnaa
