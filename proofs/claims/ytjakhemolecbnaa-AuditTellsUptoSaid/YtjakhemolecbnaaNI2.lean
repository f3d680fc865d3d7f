/-
  The texts RefRead, Reads20 of this proof in one (what is used of them): what each proves is said at its head. No conditions beyond those that each theorem says.
-/
import Derived.Deep.CutBlock
import Derived.Test.YtjakhemolecbnaaNE
import Derived.Test.YtjakhemolecbnaaNI
import Derived.Test.YtjakhemolecbnaaND2
import Derived.Test.YtjakhemolecbnaaNF
import Derived.Test.YtjakhemolecbnaaNE4
import Derived.Test.YtjakhemolecbnaaNG
import Derived.Test.YtjakhemolecbnaaNG2

/-
  The walk of the reference's Read, on any text.
-/
section
set_option linter.unusedVariables false
set_option linter.unusedSimpArgs false
namespace Go.Proofs.Ytjakhemolecbnaa
open Go.RowKit

theorem infoRecRf : (Try.prog.info? 55).map (·.size) = some 4 := by kernel_rfl
theorem num_byte (l : List UInt8) (s : Rs) : ((numOf (rawS l 1 s).1 : Nat) : Int) = un8 (byteS l s).1 := by
  have h := rawS_length l 1 s
  show _ = un8 ((rawS l 1 s).1.headD 0)
  generalize (rawS l 1 s).1 = x at *
  match x, h with
  | [], _ => rfl
  | [b], _ => simp [numOf, un8]

set_option maxHeartbeats 1000000 in
theorem rfByte_g (w : World) (p : Nat) (A : Option Addr) (c : Nat) (l : List UInt8) (s : Rs) (h : RfAt w p A c l s) (hl : l.length ≤ 100000000) :
    Calls Try.prog 41 #[.pointer (some ⟨p, 0, none⟩)] w fun e w' => e = .returned (.int .i64 (un8 (byteS l s).1)) ∧ RfAt w' p A c l (byteS l s).2 ∧ Upd (fun k => k = p) w w' := by
  have hr := un8_range (byteS l s).1
  obtain ⟨y, ey⟩ : ∃ y, y = un8 (byteS l s).1 := ⟨_, rfl⟩
  rw [← ey] at hr ⊢
  go_enter Try.func41, Try.ntmps41
  go_wp2_with fail
  refine (rfNumber_g w p A c l s h 1 (by omega) (by omega) hl).mono ?_
  rw [num_byte, ← ey]
  rintro e w1 ⟨rfl, hw, hb⟩
  have H := Lib.hid hw
  have HB := Lib.hid hb
  clear hw hb h ey
  have hw : IntKind.i64.wrap y = y := by rw [IntKind.wrap_i64]; omega
  clear hr
  go_wp2_with fail
  go_ret
  exact ⟨rfl, H.out, HB.out⟩

theorem byteS_bad {l : List UInt8} {s : Rs} (h : s.why ≠ 0) : byteS l s = (0, s) := by unfold byteS; rw [rawS_bad h]; rfl
theorem textS_bad {l : List UInt8} {m : Nat} {s : Rs} (h : s.why ≠ 0) : textS l m s = ([], s) := by unfold textS; rw [countS_bad h, rawS_bad h]
theorem grpS_bad {l : List UInt8} {s : Rs} {j : Nat} (h : (grpS l j s).2.why ≠ 0) : ∀ k, (grpS l (j + k) s).2 = (grpS l j s).2
  | 0 => rfl
  | k + 1 => by
    show (byteS l (grpS l (j + k) s).2).2 = _
    rw [grpS_bad h k, byteS_bad h]
/-- Is a group in order behind those ahead? -/
def okG (gs : List UInt8) (i : Nat) : Bool := decide (un8 (gs.getD i 0) < 3) && (decide (i = 0) || decide (un8 (gs.getD (i - 1) 0) < un8 (gs.getD i 0)))
theorem fine_step (q : Bool) (gs : List UInt8) (i : Nat) (h : i < gs.length) : fineOf q (gs.take (i + 1)) = (fineOf q (gs.take i) && okG gs i) := by
  unfold fineOf okG
  rw [List.take_succ_eq_append_getElem h, List.foldl_append]
  have hr := un8_range gs[i]
  have hg : gs.getD i 0 = gs[i] := by rw [List.getD_eq_getElem?_getD, List.getElem?_eq_getElem h]; rfl
  rw [hg]
  show ((List.foldl fineStep (q, -1) (gs.take i)).1 && (decide ((List.foldl fineStep (q, -1) (gs.take i)).2 < un8 gs[i]) && decide (un8 gs[i] < 3))) = _
  cases i with
  | zero =>
    have : decide ((-1 : Int) < un8 gs[0]) = true := by simp; omega
    show (q && (decide ((-1 : Int) < un8 gs[0]) && decide (un8 gs[0] < 3))) = _
    rw [this]
    simp
  | succ k =>
    have hk : k < gs.length := by omega
    have hg2 : gs.getD (k + 1 - 1) 0 = gs[k] := by rw [Nat.add_sub_cancel, List.getD_eq_getElem?_getD, List.getElem?_eq_getElem hk]; rfl
    rw [hg2, List.take_succ_eq_append_getElem hk, List.foldl_append]
    show (_ && (decide (un8 gs[k] < un8 gs[k + 1]) && decide (un8 gs[k + 1] < 3))) = (_ && (decide (un8 gs[k + 1] < 3) && (decide (k + 1 = 0) || decide (un8 gs[k] < un8 gs[k + 1]))))
    rw [Bool.and_comm (decide (un8 gs[k] < un8 gs[k + 1]))]
    simp

theorem fold_false : ∀ (gs : List UInt8) (l : Int), (gs.foldl fineStep (false, l)).1 = false
  | [], _ => rfl
  | g :: gs, l => by
    rw [List.foldl_cons, show fineStep (false, l) g = (false, un8 g) from rfl]
    exact fold_false gs _
theorem fine_and (a b : Bool) (gs : List UInt8) : fineOf (a && b) gs = (a && fineOf b gs) := by
  cases a
  · exact fold_false gs _
  · simp
theorem builtI (x : Int) : Try.prog.builtSlice 3 1 [(0, .int .i64 x)] = some #[.int .i64 x] := by kernel_rfl
theorem four_set {w : World} {g : Nat} {cs : Array Value} {t : TypeId} {fr : Nat × Nat} (h : w.heap[g]? = some (.cells cs t fr)) (hc : cs.size = 4) (u0 u1 u2 u3 : Value) (W : World) (hW : W = (((w.setCell ⟨g, 0, none⟩ u0).setCell ⟨g, 1, none⟩ u1).setCell ⟨g, 2, none⟩ u2).setCell ⟨g, 3, none⟩ u3) : W.heap[g]? = some (.cells #[u0, u1, u2, u3] t fr) ∧ Upd (fun k => k = g) w W := by
  subst hW
  refine ⟨?_, ((((Upd.refl (fun k => k = g) w).setCell (p := ⟨g, 0, none⟩) (fun _ => rfl) _).setCell (p := ⟨g, 1, none⟩) (fun _ => rfl) _).setCell (p := ⟨g, 2, none⟩) (fun _ => rfl) _).setCell (p := ⟨g, 3, none⟩) (fun _ => rfl) _⟩
  rw [setCell_at (setCell_at (setCell_at (setCell_at h _) _) _) _]
  obtain ⟨l⟩ := cs
  match l, hc with
  | [a, b, c, d], _ => rfl
theorem below_drewN {B : Nat} {w W : World} (h : Below B w W) : ∀ n, Below B w (W.drewN n)
  | 0 => h
  | n + 1 => (below_drewN h n).drew
/-- What holds while a group is read. -/
structure XI (w : World) (p gx B : Nat) (A : Option Addr) (c : Nat) (s : List UInt8) (st : Rs) (vg : Value) (n : Nat) (xs : List Value) (x0 x1 x3 : Value) (l : Array Bool) (W : World) : Prop where
  upd : Upd (fun k => vg.ownBlock = some k ∨ k = gx ∨ k = p) w W
  rf : l.getD 3 false = false → RfAt W p A c s st
  xc : l.getD 7 false = false → W.heap[gx]? = some (.cells #[x0, x1, vg, x3] 55 (0, 0))
  own : l.getD 5 false = false → W.ownsRow B 3 1 vg n xs
theorem XI.set {w : World} {p gx B : Nat} {A : Option Addr} {c : Nat} {s : List UInt8} {st : Rs} {vg : Value} {n : Nat} {xs : List Value} {x0 x1 x3 : Value} {l : Array Bool} {W : World} (h : XI w p gx B A c s st vg n xs x0 x1 x3 l W) (j : Nat) : XI w p gx B A c s st vg n xs x0 x1 x3 (l.setIfInBounds j true) W :=
  ⟨h.upd, fun hl => h.rf (unset hl), fun hl => h.xc (unset hl), fun hl => h.own (unset hl)⟩

set_option maxRecDepth 100000 in
set_option maxHeartbeats 8000000 in
theorem refRead_any (s : List UInt8) (w : World) (hs : s.length ≤ 100000000) :
    Calls Try.prog 20 #[.string (strB s)] w fun e w' => Below w.heap.size w w' ∧
      ((readS s = none ∧ e = .returned (.tuple #[.agg recZ, .int .i64 12])) ∨
       (∃ r A c, readS s = some r ∧ e = .returned (.tuple #[.agg (r.m A c).cells.toArray, .int .i64 0]) ∧ w'.ownsRow w.heap.size 3 1 (.slice A r.groups.length c) r.groups.length (r.groups.map (Value.int .i64)))) := by
  have kc := fun W => Lib.run_convert_string_bytes (P := Try.prog) W 9 25 5 (strB s) Try.underlying9 Try.underlying25 Try.underlying5
  have hb1 : Below w.heap.size w (w.alloc (.cells recZ 55)) := (Below.refl _ _).alloc (Nat.le_refl _) _
  have hx1 := heap_alloc_new w (.cells recZ 55)
  have hz1 : w.heap.size < (w.alloc (.cells recZ 55)).heap.size := by simp
  obtain ⟨w1, hw1⟩ : ∃ w1, w1 = w.alloc (.cells recZ 55) := ⟨_, rfl⟩
  rw [← hw1] at hb1 hx1 hz1
  obtain ⟨bz, hbz⟩ : ∃ bz, bz = w.heap.size := ⟨_, rfl⟩
  have HB1 := Lib.hid hb1
  have HX1 := Lib.hid hx1
  have HW1 := Lib.hid hw1
  have HZ1 := Lib.hid hz1
  have HBZ := Lib.hid hbz
  clear hb1 hx1 hw1 hz1 hbz
  obtain ⟨R, hR⟩ : ∃ R, readS s = R := ⟨_, rfl⟩
  rw [hR]
  unfold readS at hR
  obtain ⟨kb, s1, ek⟩ : ∃ kb s1, byteS s ⟨0, 0, 0⟩ = (kb, s1) := ⟨_, _, rfl⟩
  obtain ⟨tx, s2, et⟩ : ∃ tx s2, textS s 4000 s1 = (tx, s2) := ⟨_, _, rfl⟩
  obtain ⟨nb, s3, en⟩ : ∃ nb s3, byteS s s2 = (nb, s3) := ⟨_, _, rfl⟩
  obtain ⟨N, hN⟩ : ∃ N, nb.toNat = N := ⟨_, rfl⟩
  have hN1 : un8 nb = (N : Int) := by rw [← hN]; rfl
  have hN2 : N ≤ 255 := by have := nb.toNat_lt; omega
  simp only [ek, et, en, hN] at hR
  have HR := Lib.hid hR
  have EK := Lib.hid ek
  have ET := Lib.hid et
  have EN := Lib.hid en
  have HN1 := Lib.hid hN1
  have HN2 := Lib.hid hN2
  have HS := Lib.hid hs
  clear hR ek et en hN hN1 hN2 hs
  have hkr := un8_range kb
  go_enter Try.func20, Try.ntmps20
  go_upto_region 1 with fail
  rw [show w.alloc (.cells #[.int .i64 0, .string ⟨#[]⟩, .slice none 0 0, .string ⟨#[]⟩] 55) = w1 from HW1.out.symm, ← HBZ.out]
  have hcp := grownCap_ge w1 (strB s).size 0 5
  obtain ⟨cp, ecp⟩ : ∃ cp, cp = grownCap w1 (strB s).size 0 5 := ⟨_, rfl⟩
  rw [← ecp, strB_size] at hcp
  have hrb := bytes_RB w1 5 (strB s)
  rw [strB_toList] at hrb
  have hbB := bytes_below (Below.refl w1.heap.size w1) (Nat.le_refl _) 5 (strB s)
  have hsB := Lib.bytesWorld_size w1 5 (strB s)
  obtain ⟨wB, hwB⟩ : ∃ wB, wB = Lib.bytesWorld w1 5 (strB s) := ⟨_, rfl⟩
  rw [← hwB] at hrb hbB hsB
  obtain ⟨q0, hq0⟩ : ∃ q0, q0 = w1.heap.size := ⟨_, rfl⟩
  obtain ⟨p, hp⟩ : ∃ p, p = wB.heap.size := ⟨_, rfl⟩
  rw [← hq0] at hrb
  have hb2 : Below wB.heap.size wB (wB.alloc (.cells #[.slice (some ⟨q0, 0, none⟩) s.length cp, .int .i64 0, .bool false, .int .i64 0, .int .i64 0] 102)) := (Below.refl _ _).alloc (Nat.le_refl _) _
  have hx2 := heap_alloc_new wB (.cells #[.slice (some ⟨q0, 0, none⟩) s.length cp, .int .i64 0, .bool false, .int .i64 0, .int .i64 0] 102)
  obtain ⟨w2, hw2⟩ : ∃ w2, w2 = wB.alloc (.cells #[.slice (some ⟨q0, 0, none⟩) s.length cp, .int .i64 0, .bool false, .int .i64 0, .int .i64 0] 102) := ⟨_, rfl⟩
  rw [← hw2] at hb2 hx2
  rw [← hp] at hx2
  have HQP := Lib.hid (show q0 + 1 = p by rw [hp, hq0, hsB])
  have RF2 := Lib.hid (show RfAt w2 p (some ⟨q0, 0, none⟩) cp s ⟨0, 0, 0⟩ from ⟨hx2, hrb.below hb2, fun h0 ad e => by cases e; have := HQP.out; simp only []; omega, hcp, Nat.zero_le _, fun _ => rfl⟩)
  have B2 := Lib.hid (below_below hbB hbB.size hb2)
  have HBQ0 := Lib.hid (show bz < q0 by rw [hq0, HBZ.out]; exact HZ1.out)
  have HWB := Lib.hid hwB
  have HW2 := Lib.hid hw2
  have HP := Lib.hid hp
  have HQ0 := Lib.hid hq0
  have ECP := Lib.hid ecp
  clear hcp ecp hrb hbB hsB hwB hq0 hp hb2 hx2 hw2
  go_upto_region 2 with fail
  rw [← ECP.out, strB_size, ← HWB.out, ← HQ0.out, ← HW2.out, ← HP.out]
  clear kc
  go_wp2_with fail
  refine (rfByte_g w2 p _ cp s _ RF2.out HS.out).mono ?_
  rw [EK.out]
  rintro e w3 ⟨rfl, hrf, hu⟩
  dsimp only at hrf ⊢
  have HPL := Lib.hid (show p < w3.heap.size from hrf.lt)
  have B3 := Lib.hid (below_upd B2.out B2.out.size hu (fun k hk => by have := HQP.out; have := HQ0.out; omega))
  have hb4 : Below w3.heap.size w3 (w3.alloc (.cells #[.int .i64 (un8 kb), .string ⟨#[]⟩, .slice none 0 0, .string ⟨#[]⟩] 55)) := (Below.refl _ _).alloc (Nat.le_refl _) _
  have hx4 := heap_alloc_new w3 (.cells #[.int .i64 (un8 kb), .string ⟨#[]⟩, .slice none 0 0, .string ⟨#[]⟩] 55)
  obtain ⟨w4, hw4⟩ : ∃ w4, w4 = w3.alloc (.cells #[.int .i64 (un8 kb), .string ⟨#[]⟩, .slice none 0 0, .string ⟨#[]⟩] 55) := ⟨_, rfl⟩
  rw [← hw4] at hb4 hx4
  obtain ⟨gx, hgx⟩ : ∃ gx, gx = w3.heap.size := ⟨_, rfl⟩
  rw [← hgx] at hx4
  have HPG := Lib.hid (show p < gx by rw [hgx]; exact HPL.out)
  have RF4 := Lib.hid (hrf.below hb4)
  have B4 := Lib.hid (below_below B3.out B3.out.size hb4)
  have HX4 := Lib.hid hx4
  have HW4 := Lib.hid hw4
  have HGX := Lib.hid hgx
  clear hrf hu hb4 hx4 hw4 hgx
  go_upto_region 3 with fail
  rw [← HW4.out, ← HGX.out]
  go_wp2_with fail
  refine (rfText_g w4 p _ cp s _ RF4.out HS.out 4000 (by omega)).mono ?_
  rw [ET.out]
  rintro e w5 ⟨rfl, hrf, hu⟩
  dsimp only at hrf ⊢
  have hx5 := (hu.block gx (Array.getElem?_eq_some_iff.1 HX4.out).1 (by have := HPG.out; omega)).trans HX4.out
  have d1 : w5.cell? ⟨gx, 1, none⟩ = some (.string ⟨#[]⟩) := (cell_of_row w5 gx 1 _ _ _ hx5).trans rfl
  have f1 := frozen_of_row w5 gx 1 _ _ hx5
  have hu6 : Upd (fun k => k = gx) w5 (w5.setCell ⟨gx, 1, none⟩ (.string (strB tx))) := (Upd.refl (fun k => k = gx) w5).setCell (p := ⟨gx, 1, none⟩) (fun _ => rfl) _
  have hx6 : (w5.setCell ⟨gx, 1, none⟩ (.string (strB tx))).heap[gx]? = some (.cells #[.int .i64 (un8 kb), .string (strB tx), .slice none 0 0, .string ⟨#[]⟩] 55 (0, 0)) := by rw [setCell_at hx5 _]; rfl
  obtain ⟨w6, hw6⟩ : ∃ w6, w6 = w5.setCell ⟨gx, 1, none⟩ (.string (strB tx)) := ⟨_, rfl⟩
  rw [← hw6] at hu6 hx6
  have B5 := Lib.hid (below_upd B4.out B4.out.size hu (fun k hk => by have := HQP.out; have := HQ0.out; omega))
  have B6 := Lib.hid (below_upd B5.out B5.out.size hu6 (fun k hk => by have := HQP.out; have := HQ0.out; have := HPG.out; omega))
  have RF6 := Lib.hid (hrf.upd hu6 (by have := HPG.out; omega) (fun h0 ad e hk => by cases e; have := HQP.out; have := HPG.out; simp only [] at hk; omega))
  have HX6 := Lib.hid hx6
  have HW6 := Lib.hid hw6
  clear hrf hu hx5 hu6 hx6 hw6
  go_upto_region 4 with fail
  rw [← HW6.out]
  clear d1 f1
  go_wp2_with fail
  refine (rfByte_g w6 p _ cp s _ RF6.out HS.out).mono ?_
  rw [EN.out]
  dsimp only
  rw [HN1.out]
  rintro e w7 ⟨rfl, hrf, hu⟩
  have RF7 := Lib.hid hrf
  have HX7 := Lib.hid ((hu.block gx (Array.getElem?_eq_some_iff.1 HX6.out).1 (by have := HPG.out; omega)).trans HX6.out)
  have B7 := Lib.hid (below_upd B6.out B6.out.size hu (fun k hk => by have := HQP.out; have := HQ0.out; omega))
  obtain ⟨B, hB⟩ : ∃ B, B = w7.heap.size := ⟨_, rfl⟩
  have HB7 := Lib.hid hB
  have HGB := Lib.hid (show gx < B by rw [hB]; exact (Array.getElem?_eq_some_iff.1 HX7.out).1)
  have HPB := Lib.hid (show p < B by have := HPG.out; have := HGB.out; omega)
  have HQB := Lib.hid (show q0 < B by have := HPB.out; have := HQP.out; omega)
  have HQG := Lib.hid (show q0 < gx by have := HPG.out; have := HQP.out; omega)
  have hn0 : (N : Int) ≤ 255 := by have := HN2.out; omega
  obtain ⟨x0, ex0⟩ : ∃ x0 : Value, x0 = .int .i64 (un8 kb) := ⟨_, rfl⟩
  obtain ⟨x1, ex1⟩ : ∃ x1 : Value, x1 = .string (strB tx) := ⟨_, rfl⟩
  obtain ⟨x3, ex3⟩ : ∃ x3 : Value, x3 = .string ⟨#[]⟩ := ⟨_, rfl⟩
  rw [← ex0, ← ex1, ← ex3] at HX7
  have EX0 := Lib.hid ex0
  have EX1 := Lib.hid ex1
  have EX3 := Lib.hid ex3
  clear hrf hu hB ex0 ex1 ex3
  go_upto_block 0 with fail
  go_cut [] (fun wx => ∃ (gs : List UInt8) (st : Rs) (Ag : Option Addr) (cg : Nat), gs.length ≤ N ∧ grpS s gs.length s3 = (gs, st) ∧ (gs.length = N ∨ st.why ≠ 0) ∧ RfAt wx p (some ⟨q0, 0, none⟩) cp s st ∧ wx.heap[gx]? = some (.cells #[x0, x1, .slice Ag gs.length cg, x3] 55 (0, 0)) ∧ wx.ownsRow B 3 1 (.slice Ag gs.length cg) gs.length (gvs gs) ∧ Below w1.heap.size w1 wx ∧ B ≤ wx.heap.size)
  case first =>
    go_wp2_with fail
    go_loopg [6] N (fun k s6 wr => ∃ (gs : List UInt8) (st : Rs) (Ag : Option Addr) (cg : Nat), gs.length ≤ N ∧ k = N - gs.length ∧ grpS s gs.length s3 = (gs, st) ∧ s6 = .int .i64 ((N : Int) - (gs.length : Int)) ∧ RfAt wr p (some ⟨q0, 0, none⟩) cp s st ∧ wr.heap[gx]? = some (.cells #[x0, x1, .slice Ag gs.length cg, x3] 55 (0, 0)) ∧ wr.ownsRow B 3 1 (.slice Ag gs.length cg) gs.length (gvs gs) ∧ Below w1.heap.size w1 wr ∧ B ≤ wr.heap.size)
    case atStart => exact ⟨[], s3, none, 0, Nat.zero_le _, by simp, rfl, by simp, RF7.out, HX7.out, World.ownsRow_nil _ _ _ _, B7.out, Nat.le_of_eq HB7.out⟩
    case round =>
      obtain ⟨gs, st, Ag, cg, hj, hk, hgs, rfl, hrd, hbx, how, hb, hsz⟩ := hrel
      have HK := Lib.hid hk
      have HGS := Lib.hid hgs
      have HRD := Lib.hid hrd
      have HBX := Lib.hid hbx
      have HOW := Lib.hid how
      have HB := Lib.hid hb
      have HSZ := Lib.hid hsz
      have HJ := Lib.hid hj
      clear hk hgs hrd hbx how hb hsz
      by_cases hlt : gs.length < N
      · have hp0 : (0 : Int) < (N : Int) - (gs.length : Int) := by omega
        by_cases hwy : st.why = 0
        · have c2 := HRD.out.c2g hwy
          obtain ⟨b, st', ex⟩ : ∃ b st', byteS s st = (b, st') := ⟨_, _, rfl⟩
          have EX := Lib.hid ex
          have HG2 := Lib.hid (show grpS s (gs.length + 1) s3 = (gs ++ [b], st') by
            show ((grpS s gs.length s3).1 ++ [(byteS s (grpS s gs.length s3).2).1], (byteS s (grpS s gs.length s3).2).2) = _
            rw [HGS.out]
            dsimp only
            rw [ex])
          have HLT := Lib.hid hlt
          have HGL := Lib.hid (show gs.length ≤ 255 by have := HN2.out; omega)
          have HI0 := Lib.hid (show XI wr p gx B (some ⟨q0, 0, none⟩) cp s st (.slice Ag gs.length cg) gs.length (gvs gs) x0 x1 x3 (Array.replicate 8 false) wr.drew from
            ⟨(Upd.refl _ _).drew, fun _ => HRD.out.below ((Below.refl _ _).drew), fun _ => HBX.out, fun _ => own_below HOW.out ((Below.refl _ _).drew)⟩)
          have HBQ := HSZ
          clear ex hlt hj hwy
          go_upto_region 7 with fail
          clear c2
          refine region_byM (XI wr p gx B (some ⟨q0, 0, none⟩) cp s st (.slice Ag gs.length cg) gs.length (gvs gs) x0 x1 x3) [(fun v _ => v = .pointer (some ⟨gx, 2, none⟩)), fun v _ => v = .slice Ag gs.length cg, (fun v _ => v = .pointer (some ⟨p, 0, none⟩)), fun v W => v = .int .i64 (un8 b) ∧ RfAt W p (some ⟨q0, 0, none⟩) cp s st', fun v W => ∃ g, v = .slice (some ⟨g, 0, none⟩) 1 1 ∧ RC W (some ⟨g, 0, none⟩) [.int .i64 (un8 b)] ∧ g ≠ gx ∧ (Value.slice Ag gs.length cg).ownBlock ≠ some g, fun v W => ∃ A' c', v = .slice A' (gs.length + 1) c' ∧ W.ownsRow B 3 1 v (gs.length + 1) (gvs (gs ++ [b])), (fun v _ => v = .pointer (some ⟨gx, 2, none⟩)), fun _ W => ∃ A' c', W.heap[gx]? = some (.cells #[x0, x1, .slice A' (gs.length + 1) c', x3] 55 (0, 0)) ∧ W.ownsRow B 3 1 (.slice A' (gs.length + 1) c') (gs.length + 1) (gvs (gs ++ [b]))] (by kernel_rfl) (by kernel_rfl) (by kernel_rfl) rfl (HI0.out) ?ok7 ?fin7
          case ok7 =>
            refine ⟨?_, ?_, ?_, ?_, ?_, ?_, ?_, ?_, trivial⟩
            · intro l a' w' K hI hcl hsz hn hd hq hK
              have e5 : a'.eval (.tmp 5) = .pointer (some ⟨gx, 0, none⟩) := (hq 5 (by kernel_rfl)).trans rfl
              clear hd hq hcl hsz hn
              refine op_value (wanted_free _ _ (by rfl)) (v := .pointer (some ⟨gx, 2, none⟩)) (w'' := w') ?_ (hK _ _ (hI.set _) (fun _ _ _ h => h) rfl)
              clear hK
              simp only [execOp, e5]
              have f5 : a'.tmps[5]?.getD undef = .pointer (some ⟨gx, 0, none⟩) := (Array.getD_eq_getD_getElem? ..).symm.trans e5
              clear e5
              first | rfl | (go_simp <;> exact IntWalk.i64_in _ (by omega))
            · intro l a' w' K hI hcl hsz hn hd hq hK
              have e34 : a'.eval (.tmp 34) = .pointer (some ⟨gx, 2, none⟩) := (hd 0 34 (by kernel_rfl))
              clear hd hq
              have h7 : l.getD 7 false = false := hcl 7 1 (by kernel_rfl) hn
              have cx : w'.cell? ⟨gx, 2, none⟩ = some (.slice Ag gs.length cg) := (cell_of_row w' gx 2 _ _ _ (hI.xc h7)).trans rfl
              refine op_value (wanted_free _ _ (by rfl)) (v := .slice Ag gs.length cg) (w'' := w') ?_ (hK _ _ (hI.set _) (fun _ _ _ h => h) rfl)
              clear hK
              simp only [execOp, e34]
              have f34 : a'.tmps[34]?.getD undef = .pointer (some ⟨gx, 2, none⟩) := (Array.getD_eq_getD_getElem? ..).symm.trans e34
              clear e34 hI h7
              go_simp
            · intro l a' w' K hI hcl hsz hn hd hq hK
              have e4 : a'.eval (.tmp 4) = .pointer (some ⟨p, 0, none⟩) := (hq 4 (by kernel_rfl)).trans rfl
              clear hd hq hcl hsz hn
              refine op_value (wanted_free _ _ (by rfl)) (v := .pointer (some ⟨p, 0, none⟩)) (w'' := w') ?_ (hK _ _ (hI.set _) (fun _ _ _ h => h) rfl)
              clear hK
              simp only [execOp, e4]
              have f4 : a'.tmps[4]?.getD undef = .pointer (some ⟨p, 0, none⟩) := (Array.getD_eq_getD_getElem? ..).symm.trans e4
              clear e4
              first | rfl | (go_simp <;> exact IntWalk.i64_in _ (by omega))
            · intro l a' w' K hI hcl hsz hn hd hq hK
              have e36 : a'.eval (.tmp 36) = .pointer (some ⟨p, 0, none⟩) := (hd 2 36 (by kernel_rfl))
              clear hd hq
              have h4 : l.getD 4 false = false := hcl 4 3 (by kernel_rfl) hn
              have h5 : l.getD 5 false = false := hcl 5 4 (by kernel_rfl) h4
              have h7 : l.getD 7 false = false := hcl 7 5 (by kernel_rfl) h5
              refine op_call #[.pointer (some ⟨p, 0, none⟩)] (wanted_free _ _ (by rfl)) rfl Try.func41 (by kernel_rfl) rfl (by simp only [List.map_toArray, List.map_cons, List.map_nil, e36]) ?_
              refine (rfByte_g w' p _ cp s st (hI.rf hn) HS.out).mono ?_
              rw [EX.out]
              rintro e w6 ⟨rfl, hrf, hu⟩
              have hu' : Upd (fun k => (Value.slice Ag gs.length cg).ownBlock = some k ∨ k = gx ∨ k = p) w' w6 := hu.mono (fun k _ hk => .inr (.inr hk))
              exact ⟨_, rfl, hK _ _ ⟨hI.upd.trans hu' (fun _ _ h => h), (fun h => absurd (h.symm.trans (setTrue (by rw [hsz]; exact of_decide_eq_true (by kernel_rfl)))) (by decide)), fun h => (hu.block gx (Array.getElem?_eq_some_iff.1 (hI.xc h7)).1 (by have := HPG.out; omega)).trans (hI.xc h7), fun h => own_upd (hI.own h5) hu (fun k hk e => by have := ((hI.own h5).lt k hk).1; have := HPB.out; omega)⟩ (fun j u => by match j with | 0 => exact fun _ h => h | 1 => exact fun _ h => h | 2 => exact fun _ h => h | 3 => exact fun hl _ => absurd hl (by rw [hn]; decide) | 4 => exact fun hl _ => absurd hl (by rw [h4]; decide) | 5 => exact fun hl _ => absurd hl (by rw [h5]; decide) | 6 => exact fun _ h => h | 7 => exact fun hl _ => absurd hl (by rw [h7]; decide) | _ + 8 => exact fun _ _ => trivial) ⟨rfl, hrf⟩⟩
            · intro l a' w' K hI hcl hsz hn hd hq hK
              have e37 : a'.eval (.tmp 37) = .int .i64 (un8 b) := (hd 3 37 (by kernel_rfl)).1
              clear hd hq
              have h5 : l.getD 5 false = false := hcl 5 4 (by kernel_rfl) hn
              have h7 : l.getD 7 false = false := hcl 7 5 (by kernel_rfl) h5
              have hb7 : Below w'.heap.size w' (w'.alloc (.cells #[.int .i64 (un8 b)] 3)) := (Below.refl _ _).alloc (Nat.le_refl _) _
              refine op_buildSlice (wanted_free _ _ (by rfl)) 22 3 1 _ rfl Try.underlying22 #[.int .i64 (un8 b)] (by simp only [List.map_toArray, List.map_cons, List.map_nil, e37]; exact builtI _) ?_
              refine hK _ _ ⟨hI.upd.trans (Upd.of_below hb7) (fun _ _ h => h), fun h => (hI.rf (unset h)).below hb7, fun h => (hb7.block gx (Array.getElem?_eq_some_iff.1 (hI.xc h7)).1).trans (hI.xc h7), fun h => own_below (hI.own h5) hb7⟩ (fun j u => by match j with | 0 => exact fun _ h => h | 1 => exact fun _ h => h | 2 => exact fun _ h => h | 3 => exact fun _ h => ⟨h.1, h.2.below hb7⟩ | 4 => exact fun hl _ => absurd hl (by rw [hn]; decide) | 5 => exact fun hl _ => absurd hl (by rw [h5]; decide) | 6 => exact fun _ h => h | 7 => exact fun hl _ => absurd hl (by rw [h7]; decide) | _ + 8 => exact fun _ _ => trivial) ⟨w'.heap.size, rfl, RC_newL w' [.int .i64 (un8 b)] _, (by have := (Array.getElem?_eq_some_iff.1 (hI.xc h7)).1; omega), fun h => Nat.lt_irrefl _ ((hI.own h5).lt _ h).2⟩
            · intro l a' w' K hI hcl hsz hn hd hq hK
              have e35 : a'.eval (.tmp 35) = .slice Ag gs.length cg := (hd 1 35 (by kernel_rfl))
              have e38 := hd 4 38 (by kernel_rfl)
              clear hd hq
              obtain ⟨gN, e38', hrc, hng, hno⟩ := (show ∃ g, a'.eval (.tmp 38) = .slice (some ⟨g, 0, none⟩) 1 1 ∧ RC w' (some ⟨g, 0, none⟩) [.int .i64 (un8 b)] ∧ g ≠ gx ∧ (Value.slice Ag gs.length cg).ownBlock ≠ some g from e38)
              have h7 : l.getD 7 false = false := hcl 7 5 (by kernel_rfl) hn
              refine step_append_any rfl (.tmp 35) (.tmp 38) 22 rfl B 3 (.int .i64 0) 1 8 Try.underlying22 infoI rfl (by omega) (by omega) (.slice Ag gs.length cg) gs.length (gvs gs) e35 (hI.own hn) (some ⟨gN, 0, none⟩) 1 1 [.int .i64 (un8 b)] e38' rfl hrc (by intro u hu; simp at hu; rw [hu]; rfl) (by have := HGL.out; omega) (Nat.le_trans HBQ.out hI.upd.size) ?_
              intro v9 w9 ho9 hg9 hat9
              have hu9 : Upd (fun k => (Value.slice Ag gs.length cg).ownBlock = some k) w' w9 := (Upd.refl _ w').grown hg9 (fun k hk _ => hk)
              have hu9' : Upd (fun k => (Value.slice Ag gs.length cg).ownBlock = some k ∨ k = gx ∨ k = p) w' w9 := hu9.mono (fun k _ hk => .inl hk)
              have hbase : ∀ k, (Value.slice Ag gs.length cg).ownBlock = some k → B ≤ k := fun k hk => ((hI.own hn).lt k hk).1
              have hrf9 : ∀ st0, RfAt w' p (some ⟨q0, 0, none⟩) cp s st0 → RfAt w9 p (some ⟨q0, 0, none⟩) cp s st0 := fun st0 h => h.upd hu9 (fun e => by have := hbase _ e; have := HPB.out; omega) (fun h0 ad e hk => by cases e; have h9 : B ≤ q0 := hbase _ hk; have := HQB.out; omega)
              obtain ⟨A9, c9, rfl, hc9⟩ := own_slice ho9
              exact hK _ _ ⟨hI.upd.trans hu9' (fun _ _ h => h), fun h => hrf9 _ (hI.rf (unset h)), fun h => (hu9.block gx (Array.getElem?_eq_some_iff.1 (hI.xc h7)).1 (fun e => by have := hbase _ e; have := HGB.out; omega)).trans (hI.xc h7), (fun h => absurd (h.symm.trans (setTrue (by rw [hsz]; exact of_decide_eq_true (by kernel_rfl)))) (by decide))⟩ (fun j u => by match j with | 0 => exact fun _ h => h | 1 => exact fun _ h => h | 2 => exact fun _ h => h | 3 => exact fun _ h => ⟨h.1, hrf9 _ h.2⟩ | 4 => exact fun _ ⟨g, h1, h2, h3, h4⟩ => ⟨g, h1, RC.upd h2 hu9 (fun h0 ad e hk => by cases e; exact h4 hk), h3, h4⟩ | 5 => exact fun hl _ => absurd hl (by rw [hn]; decide) | 6 => exact fun _ h => h | 7 => exact fun hl _ => absurd hl (by rw [h7]; decide) | _ + 8 => exact fun _ _ => trivial) ⟨A9, c9, rfl, by rw [gvs_snoc]; exact ho9⟩
            · intro l a' w' K hI hcl hsz hn hd hq hK
              have e5 : a'.eval (.tmp 5) = .pointer (some ⟨gx, 0, none⟩) := (hq 5 (by kernel_rfl)).trans rfl
              clear hd hq hcl hsz hn
              refine op_value (wanted_free _ _ (by rfl)) (v := .pointer (some ⟨gx, 2, none⟩)) (w'' := w') ?_ (hK _ _ (hI.set _) (fun _ _ _ h => h) rfl)
              clear hK
              simp only [execOp, e5]
              have f5 : a'.tmps[5]?.getD undef = .pointer (some ⟨gx, 0, none⟩) := (Array.getD_eq_getD_getElem? ..).symm.trans e5
              clear e5
              first | rfl | (go_simp <;> exact IntWalk.i64_in _ (by omega))
            · intro l a' w' K hI hcl hsz hn hd hq hK
              have e40 : a'.eval (.tmp 40) = .pointer (some ⟨gx, 2, none⟩) := (hd 6 40 (by kernel_rfl))
              have e39 := hd 5 39 (by kernel_rfl)
              clear hd hq
              obtain ⟨A9, c9, h39, ho9⟩ := (show ∃ A' c', a'.eval (.tmp 39) = .slice A' (gs.length + 1) c' ∧ w'.ownsRow B 3 1 (a'.eval (.tmp 39)) (gs.length + 1) (gvs (gs ++ [b])) from e39)
              rw [h39] at ho9
              have hx := hI.xc hn
              have hf0 := frozen_of_row w' gx 2 _ _ hx
              have hc0 : w'.cell? ⟨gx, 2, none⟩ = some (.slice Ag gs.length cg) := (cell_of_row w' gx 2 _ _ _ hx).trans rfl
              have hu11 : Upd (fun k => k = gx) w' (w'.setCell ⟨gx, 2, none⟩ (.slice A9 (gs.length + 1) c9)) := (Upd.refl (fun k => k = gx) w').setCell (p := ⟨gx, 2, none⟩) (fun _ => rfl) _
              have hu11' : Upd (fun k => (Value.slice Ag gs.length cg).ownBlock = some k ∨ k = gx ∨ k = p) w' (w'.setCell ⟨gx, 2, none⟩ (.slice A9 (gs.length + 1) c9)) := hu11.mono (fun k _ hk => .inr (.inl hk))
              have hx2 : (w'.setCell ⟨gx, 2, none⟩ (.slice A9 (gs.length + 1) c9)).heap[gx]? = some (.cells #[x0, x1, .slice A9 (gs.length + 1) c9, x3] 55 (0, 0)) := by
                rw [setCell_at hx _]
                rfl
              have hrf9 : ∀ st0, RfAt w' p (some ⟨q0, 0, none⟩) cp s st0 → RfAt (w'.setCell ⟨gx, 2, none⟩ (.slice A9 (gs.length + 1) c9)) p (some ⟨q0, 0, none⟩) cp s st0 := fun st0 h => h.upd hu11 (by have := HPG.out; omega) (fun h0 ad e hk => by cases e; have := HQG.out; simp only [] at hk; omega)
              have hoo : ∀ vv nn xx, w'.ownsRow B 3 1 vv nn xx → (w'.setCell ⟨gx, 2, none⟩ (.slice A9 (gs.length + 1) c9)).ownsRow B 3 1 vv nn xx := fun vv nn xx h => own_upd h hu11 (fun k hk e => by have := (World.ownsRow.lt h k hk).1; have := HGB.out; omega)
              refine op_skip (wanted_free _ _ (by rfl)) rfl (w'' := w'.setCell ⟨gx, 2, none⟩ (.slice A9 (gs.length + 1) c9)) ?_ (hK undef _ ⟨hI.upd.trans hu11' (fun _ _ h => h), fun h => hrf9 _ (hI.rf (unset h)), (fun h => absurd (h.symm.trans (setTrue (by rw [hsz]; exact of_decide_eq_true (by kernel_rfl)))) (by decide)), fun h => hoo _ _ _ (hI.own (unset h))⟩ (fun j u => by match j with | 0 => exact fun _ h => h | 1 => exact fun _ h => h | 2 => exact fun _ h => h | 3 => exact fun _ h => ⟨h.1, hrf9 _ h.2⟩ | 4 => exact fun _ ⟨g, h1, h2, h3, h4⟩ => ⟨g, h1, RC.upd h2 hu11 (fun h0 ad e hk => by cases e; exact h3 hk), h3, h4⟩ | 5 => exact fun _ ⟨A', c', h1, h2⟩ => ⟨A', c', h1, hoo _ _ _ h2⟩ | 6 => exact fun _ h => h | 7 => exact fun hl _ => absurd hl (by rw [hn]; decide) | _ + 8 => exact fun _ _ => trivial) ⟨A9, c9, hx2, hoo _ _ _ ho9⟩)
              clear hK
              simp only [execOp, e40]
              have f40 : a'.tmps[40]?.getD undef = .pointer (some ⟨gx, 2, none⟩) := (Array.getD_eq_getD_getElem? ..).symm.trans e40
              have f39 : a'.tmps[39]?.getD undef = .slice A9 (gs.length + 1) c9 := (Array.getD_eq_getD_getElem? ..).symm.trans h39
              clear e40 e39 hI hu11 hu11' hx hx2 h39 hrf9 hoo ho9
              go_simp
          case fin7 =>
            rintro l w' hsz hall hI _ rfl _ rfl _ rfl _ h3fin _ _ _ _ _ rfl _ h7fin
            simp only [Act.put, List.setIfInBounds_toArray, List.set_cons_zero, List.set_cons_succ, FinGoal]
            obtain ⟨A9, c9, hx9, ho9⟩ := h7fin
            have RF9 := Lib.hid h3fin.2
            have HX9 := Lib.hid hx9
            have HO9 := Lib.hid (show w'.ownsRow B 3 1 (.slice A9 (gs ++ [b]).length c9) (gs ++ [b]).length (gvs (gs ++ [b])) by rw [List.length_append]; exact ho9)
            have HB9 := Lib.hid (below_upd HB.out HB.out.size hI.upd (fun k hk => by
              have := HQ0.out; have := HQP.out; have := HPG.out; have := HGB.out
              rcases hk with hk | hk | hk
              · have := (World.ownsRow.lt HOW.out k hk).1; omega
              · omega
              · omega))
            have HS9 := Lib.hid (Nat.le_trans HSZ.out hI.upd.size)
            clear hI h3fin hx9 ho9 hall
            go_wp2_with fail
            go_roundg (N - (gs.length + 1))
            case measure => have := HK.out; have := HLT.out; omega
            case rel => exact ⟨gs ++ [b], st', A9, c9, by simp; exact HLT.out, by simp, by rw [List.length_append]; exact HG2.out, by rw [List.length_append]; go_num, RF9.out, by rw [List.length_append]; exact HX9.out, HO9.out, HB9.out, HS9.out⟩
        · have c2 := HRD.out.c2b hwy
          have HWY := Lib.hid hwy
          clear hlt hj hwy
          go_wp2_with fail
          go_meet
          exact ⟨gs, st, Ag, cg, HJ.out, HGS.out, .inr HWY.out, HRD.out, HBX.out, HOW.out, HB.out, HSZ.out⟩
      · have hE := Lib.hid (show gs.length = N by omega)
        have hp0 : ¬ ((0 : Int) < (N : Int) - (gs.length : Int)) := by omega
        clear hlt hj
        go_wp2_with fail
        go_meet
        exact ⟨gs, st, Ag, cg, HJ.out, HGS.out, .inl hE.out, HRD.out, HBX.out, HOW.out, HB.out, HSZ.out⟩
  case rest =>
    obtain ⟨gs, st, Ag, cg, hj, hgs, hend, hrd, hbx, how, hb, hsz⟩ := hcut
    obtain ⟨bd, s5, eb⟩ : ∃ bd s5, textS s 4000 st = (bd, s5) := ⟨_, _, rfl⟩
    obtain ⟨ew, een, ee⟩ : ∃ ew een, endS s s5 = (ew, een) := ⟨_, _, rfl⟩
    obtain ⟨q, hq⟩ : ∃ q, q = (decide (ew = 0) && finePre (un8 kb) tx) := ⟨_, rfl⟩
    have HRR := Lib.hid (show (if fineOf q gs = true then some (⟨un8 kb, tx, gs.map un8, bd⟩ : Rp) else none) = R by
      have h := HR.out
      rw [hq, fine_and]
      by_cases hN : gs.length = N
      · rw [← hN, hgs] at h
        dsimp only at h
        rw [eb] at h
        dsimp only at h
        rw [ee] at h
        dsimp only at h
        rw [← h]
        simp only [Bool.and_eq_true, decide_eq_true_eq]
      · have hw : st.why ≠ 0 := by rcases hend with h | h; exact absurd h hN; exact h
        have e1 : (grpS s N s3).2 = st := by
          have hbad := grpS_bad (l := s) (s := s3) (j := gs.length) (by rw [hgs]; exact hw) (N - gs.length)
          rw [show gs.length + (N - gs.length) = N by omega, hgs] at hbad
          exact hbad
        have e2 : s5 = st := by have := textS_bad (l := s) (m := 4000) hw; rw [eb] at this; exact (Prod.ext_iff.1 this).2
        have e3 : ew = st.why := by
          rw [e2] at ee
          unfold endS at ee
          rw [if_pos hw] at ee
          exact (Prod.ext_iff.1 ee).1.symm
        rw [e1, textS_bad hw] at h
        dsimp only at h
        rw [show (endS s st).1 = st.why by unfold endS; rw [if_pos hw], if_neg (fun hh => hw hh.1)] at h
        rw [← h, decide_eq_false (by rw [e3]; exact hw)]
        simp)
    have HQ := Lib.hid hq
    have EB := Lib.hid eb
    have EE := Lib.hid ee
    have HRD := Lib.hid hrd
    have HBX := Lib.hid hbx
    have HOW := Lib.hid how
    have HB := Lib.hid hb
    have HSZ := Lib.hid hsz
    have HGL := Lib.hid (show gs.length ≤ 255 by have := HN2.out; omega)
    clear hj hgs hend hrd hbx how hb hsz eb ee hq
    rename World => wl
    go_upto_region 8 with fail
    go_wp2_with fail
    refine (rfText_g wl p _ cp s _ HRD.out HS.out 4000 (by omega)).mono ?_
    rw [EB.out]
    rintro e w8 ⟨rfl, hrf, hu⟩
    dsimp only at hrf ⊢
    rw [EX3.out] at HBX
    have hx8 := (hu.block gx (Array.getElem?_eq_some_iff.1 HBX.out).1 (by have := HPG.out; omega)).trans HBX.out
    have d3 : w8.cell? ⟨gx, 3, none⟩ = some (.string ⟨#[]⟩) := (cell_of_row w8 gx 3 _ _ _ hx8).trans rfl
    have f3 := frozen_of_row w8 gx 3 _ _ hx8
    have hu9 : Upd (fun k => k = gx) w8 (w8.setCell ⟨gx, 3, none⟩ (.string (strB bd))) := (Upd.refl (fun k => k = gx) w8).setCell (p := ⟨gx, 3, none⟩) (fun _ => rfl) _
    have hx9 : (w8.setCell ⟨gx, 3, none⟩ (.string (strB bd))).heap[gx]? = some (.cells #[x0, x1, .slice Ag gs.length cg, .string (strB bd)] 55 (0, 0)) := by rw [setCell_at hx8 _]; rfl
    obtain ⟨w9, hw9⟩ : ∃ w9, w9 = w8.setCell ⟨gx, 3, none⟩ (.string (strB bd)) := ⟨_, rfl⟩
    rw [← hw9] at hu9 hx9
    have B8 := Lib.hid (below_upd HB.out HB.out.size hu (fun k hk => by have := HQP.out; have := HQ0.out; omega))
    have B9 := Lib.hid (below_upd B8.out B8.out.size hu9 (fun k hk => by have := HQP.out; have := HQ0.out; have := HPG.out; omega))
    have RF9 := Lib.hid (hrf.upd hu9 (by have := HPG.out; omega) (fun h0 ad e hk => by cases e; have := HQG.out; simp only [] at hk; omega))
    have HO9 := Lib.hid (own_upd (own_upd HOW.out hu (fun k hk e => by have := (World.ownsRow.lt HOW.out k hk).1; have := HPB.out; omega)) hu9 (fun k hk e => by have := (World.ownsRow.lt HOW.out k hk).1; have := HGB.out; omega))
    have HX9 := Lib.hid hx9
    have HW9 := Lib.hid hw9
    clear hrf hu hx8 hu9 hx9 hw9
    go_upto_region 9 with fail
    rw [← HW9.out]
    clear d3 f3
    go_wp2_with fail
    refine (rfEnd_g w9 p _ cp s _ RF9.out HS.out).mono ?_
    rw [EE.out]
    dsimp only
    rintro e wA ⟨rfl, hbA⟩
    have BA := Lib.hid (below_below B9.out B9.out.size hbA)
    have HXA := Lib.hid ((hbA.block gx (Array.getElem?_eq_some_iff.1 HX9.out).1).trans HX9.out)
    have HOA := Lib.hid (own_below HO9.out hbA)
    clear hbA
    have D0 : wA.cell? ⟨gx, 0, none⟩ = some (.int .i64 (un8 kb)) := (cell_of_row wA gx 0 _ _ _ HXA.out).trans (by rw [EX0.out]; rfl)
    have D1 : wA.cell? ⟨gx, 1, none⟩ = some (.string (strB tx)) := (cell_of_row wA gx 1 _ _ _ HXA.out).trans (by rw [EX1.out]; rfl)
    go_upto_region 10 with fail
    go_cut [9] (fun s9 wx => s9 = .bool q ∧ wx = wA)
    case first =>
      have hf := HQ.out
      unfold finePre at hf
      by_cases h0 : ew = 0
      · by_cases h1 : 1 ≤ un8 kb
        · by_cases h4 : un8 kb ≤ 4
          · rw [decide_eq_true h0, decide_eq_true h1, decide_eq_true h4, Bool.true_and, Bool.true_and, Bool.true_and] at hf
            have HF := Lib.hid (show ((strB tx).toList.isEmpty == (un8 kb == 1)) = q by
              rw [hf, ByteArray.toList_eq, strB_toList]
              have h1 : tx.isEmpty = decide (tx = []) := by cases tx <;> simp
              have h2 : (un8 kb == 1) = decide (un8 kb = 1) := by by_cases h : un8 kb = 1 <;> simp [h]
              rw [h1, h2])
            have h0b : (ew == 0) = true := by simpa using h0
            clear hf h0
            go_wp2_with fail
            go_meet
            exact ⟨ret_val HF.out, rfl⟩
          · have HF := Lib.hid (show false = q by rw [hf]; simp [h4])
            have h0b : (ew == 0) = true := by simpa using h0
            clear hf h0
            go_wp2_with fail
            go_meet
            exact ⟨ret_val HF.out, rfl⟩
        · have HF := Lib.hid (show false = q by rw [hf]; simp [h1])
          have h0b : (ew == 0) = true := by simpa using h0
          clear hf h0
          go_wp2_with fail
          go_meet
          exact ⟨ret_val HF.out, rfl⟩
      · have HF := Lib.hid (show false = q by rw [hf]; simp [h0])
        have h0b : (ew == 0) = false := by simpa using h0
        clear hf h0
        go_wp2_with fail
        go_meet
        exact ⟨ret_val HF.out, rfl⟩
    case rest =>
      obtain ⟨rfl, hwx⟩ := hcut
      subst hwx
      clear D0 D1
      rename World => wA
      obtain ⟨fin, hfin⟩ : ∃ fin, fin = fineOf q gs := ⟨_, rfl⟩
      rw [← hfin] at HRR
      have HFIN := Lib.hid hfin
      clear hfin
      have hg5 : (gs.length : Int) ≤ 255 := by have := HGL.out; omega
      go_upto_block 2 with fail
      go_wp2_with fail
      go_loopg [9, 10] gs.length (fun k s9 s10 wr => ∃ i : Nat, i ≤ gs.length ∧ k = gs.length - i ∧ s9 = .bool (fineOf q (gs.take i)) ∧ s10 = .int .i64 (i : Int) ∧ Below wA.heap.size wA wr)
      case atStart => exact ⟨0, Nat.zero_le _, by omega, rfl, rfl, Below.refl _ _⟩
      case round =>
        obtain ⟨i, hi, hk, rfl, rfl, hb⟩ := hrel
        have HK := Lib.hid hk
        have HB2 := Lib.hid hb
        have HXR := Lib.hid ((hb.block gx (Array.getElem?_eq_some_iff.1 HXA.out).1).trans HXA.out)
        have D2 : wr.cell? ⟨gx, 2, none⟩ = some (.slice Ag gs.length cg) := (cell_of_row wr gx 2 _ _ _ HXR.out).trans rfl
        clear hk hb
        by_cases hlt : i < gs.length
        · have HST := Lib.hid (fine_step q gs i hlt)
          obtain ⟨bo, hbo⟩ : ∃ bo, bo = okG gs i := ⟨_, rfl⟩
          obtain ⟨qi, hqi⟩ : ∃ qi, qi = fineOf q (gs.take i) := ⟨_, rfl⟩
          rw [← hbo, ← hqi] at HST
          rw [← hqi]
          have hlr : (gvs gs).length = gs.length := by simp [gvs]
          obtain ⟨ba, oa, rfl, hca⟩ := (own_RC (own_below HOA.out HB2.out)).parts (by omega)
          have hgd : ∀ k : Nat, k < gs.length → wr.cell? ⟨ba, oa + k, none⟩ = some (.int .i64 (un8 (gs.getD k 0))) := fun k hk => by
            have h := hca k (.int .i64 (un8 (gs.getD k 0))) (by
              unfold gvs
              rw [List.getElem?_map, List.getD_eq_getElem?_getD, List.getElem?_eq_getElem hk]
              rfl)
            exact h
          have c1 := hgd i hlt
          have hi0 : (0 : Int) ≤ (i : Int) := by omega
          have hi1 : (i : Int) < (gs.length : Int) := by omega
          have HLT := Lib.hid hlt
          unfold okG at hbo
          obtain ⟨x, hx⟩ : ∃ x, x = un8 (gs.getD i 0) := ⟨_, rfl⟩
          rw [← hx] at hbo c1
          clear hqi hx hca
          go_upto_block 3 with fail
          go_cut [9] (fun s9 wx => s9 = .bool (qi && bo) ∧ Below wA.heap.size wA wx)
          case first =>
            cases qi with
            | false =>
              clear hbo c1 hgd hlt
              go_upto_region 14 with fail
              go_quiet (fail)
              go_wp2
              go_meet
              exact ⟨rfl, below_drewN HB2.out _⟩
            | true =>
              by_cases h3 : x < 3
              · by_cases h0 : i = 0
                · have HE := Lib.hid (show true = (true && bo) by rw [hbo]; simp [h3, h0])
                  subst h0
                  have c1' : wr.cell? ⟨ba, oa, none⟩ = some (.int .i64 x) := c1
                  have hl0 : (0 : Int) < (gs.length : Int) := hi1
                  clear hbo hgd hlt c1 hi0 hi1
                  go_upto_region 14 with fail
                  go_quiet (fail)
                  go_wp2
                  go_meet
                  exact ⟨ret_val HE.out, below_drewN HB2.out _⟩
                · obtain ⟨k, rfl⟩ : ∃ k, i = k + 1 := ⟨i - 1, by omega⟩
                  have c2 := hgd k (by omega)
                  rw [Nat.add_sub_cancel] at hbo
                  obtain ⟨y, hy⟩ : ∃ y, y = un8 (gs.getD k 0) := ⟨_, rfl⟩
                  rw [← hy] at hbo c2
                  have hne : (((k : Int) + 1) == 0) = false := by simp; omega
                  have hk0 : (0 : Int) ≤ (k : Int) := by omega
                  have hk1 : (k : Int) < (gs.length : Int) := by omega
                  clear hy hgd
                  by_cases hxy : y < x
                  · have HE := Lib.hid (show true = (true && bo) by rw [hbo]; simp [h3, hxy])
                    clear hbo hlt h0
                    go_upto_region 14 with fail
                    go_quiet (fail)
                    go_wp2
                    go_meet
                    exact ⟨ret_val HE.out, below_drewN HB2.out _⟩
                  · have HE := Lib.hid (show false = (true && bo) by rw [hbo]; simp [hxy])
                    clear hbo hlt h0
                    go_upto_region 14 with fail
                    go_quiet (fail)
                    go_wp2
                    go_meet
                    exact ⟨ret_val HE.out, below_drewN HB2.out _⟩
              · have HE := Lib.hid (show false = (true && bo) by rw [hbo]; simp [h3])
                clear hbo hgd hlt
                go_upto_region 14 with fail
                go_quiet (fail)
                go_wp2
                go_meet
                exact ⟨ret_val HE.out, below_drewN HB2.out _⟩
          case rest =>
            obtain ⟨rfl, hb3⟩ := hcut
            have HB3 := Lib.hid hb3
            clear hb3 hbo c1 hgd hlt D2
            go_wp2_with fail
            go_roundg (gs.length - (i + 1))
            case measure => have := HK.out; have := HLT.out; omega
            case rel => exact ⟨i + 1, HLT.out, rfl, by rw [HST.out], by go_num, HB3.out⟩
        · have HE := Lib.hid (show fineOf q (gs.take i) = fin by rw [HFIN.out, List.take_of_length_le (by omega)])
          rw [HE.out]
          have hi1 : ¬ ((i : Int) < (gs.length : Int)) := by omega
          have HBW := Lib.hid (below_below HB1.out HB1.out.size (below_below BA.out BA.out.size HB2.out))
          have HXZ := Lib.hid (show wr.heap[bz]? = some (.cells recZ 55 (0, 0)) from ((below_below BA.out BA.out.size HB2.out).block bz (by rw [HBZ.out]; exact HZ1.out)).trans (by rw [HBZ.out]; exact HX1.out))
          have z0 := frozen_of_row wr bz 0 _ _ HXZ.out
          have z1 := frozen_of_row wr bz 1 _ _ HXZ.out
          have z2 := frozen_of_row wr bz 2 _ _ HXZ.out
          have z3 := frozen_of_row wr bz 3 _ _ HXZ.out
          have y0 : wr.cell? ⟨bz, 0, none⟩ = some (.int .i64 0) := (cell_of_row wr bz 0 _ _ _ HXZ.out).trans rfl
          have y1 : wr.cell? ⟨bz, 1, none⟩ = some (.string ⟨#[]⟩) := (cell_of_row wr bz 1 _ _ _ HXZ.out).trans rfl
          have y2 : wr.cell? ⟨bz, 2, none⟩ = some (.slice none 0 0) := (cell_of_row wr bz 2 _ _ _ HXZ.out).trans rfl
          have y3 : wr.cell? ⟨bz, 3, none⟩ = some (.string ⟨#[]⟩) := (cell_of_row wr bz 3 _ _ _ HXZ.out).trans rfl
          clear hlt hi
          cases fin with
          | false =>
            go_wp2_with fail
            obtain ⟨hf1, hf2⟩ := four_set HXZ.out rfl _ _ _ _ _ rfl
            refine bodyPost_ret (v := .tuple #[.agg recZ, .int .i64 12]) ?_ rfl ?_
            · refine Eq.trans (results_row_tmp rfl _ _ bz 55 _ (0, 0) _ rfl hf1 Try.underlying55 rfl infoRecRf) ?_
              rfl
            · exact ⟨below_upd HBW.out HBW.out.size hf2 (fun k hk => by rw [hk, HBZ.out]; exact Nat.le_refl _), .inl ⟨HRR.out.symm, rfl⟩⟩
          | true =>
            have D0 : wr.cell? ⟨gx, 0, none⟩ = some (.int .i64 (un8 kb)) := (cell_of_row wr gx 0 _ _ _ HXR.out).trans (by rw [EX0.out]; rfl)
            have D1 : wr.cell? ⟨gx, 1, none⟩ = some (.string (strB tx)) := (cell_of_row wr gx 1 _ _ _ HXR.out).trans (by rw [EX1.out]; rfl)
            have D3 : wr.cell? ⟨gx, 3, none⟩ = some (.string (strB bd)) := (cell_of_row wr gx 3 _ _ _ HXR.out).trans rfl
            go_wp2_with fail
            obtain ⟨hf1, hf2⟩ := four_set HXZ.out rfl _ _ _ _ _ rfl
            refine bodyPost_ret (v := .tuple #[.agg #[.int .i64 (un8 kb), .string (strB tx), .slice Ag gs.length cg, .string (strB bd)], .int .i64 0]) ?_ rfl ?_
            · refine Eq.trans (results_row_tmp rfl _ _ bz 55 _ (0, 0) _ rfl hf1 Try.underlying55 rfl infoRecRf) ?_
              rfl
            · refine ⟨below_upd HBW.out HBW.out.size hf2 (fun k hk => by rw [hk, HBZ.out]; exact Nat.le_refl _), .inr ⟨⟨un8 kb, tx, gs.map un8, bd⟩, HRR.out.symm, Ag, cg, ?_, ?_⟩⟩
              · simp only [Rp.m, Rm.cells, List.length_map]
              · have h := own_upd (own_below (own_below HOA.out HB2.out) (Below.refl _ _)) hf2 (fun k hk e => by have := (World.ownsRow.lt HOA.out k hk).1; have := HBQ0.out; have := HQB.out; omega)
                have h2 := own_lower h (show w.heap.size ≤ B by have := HBZ.out; have := HBQ0.out; have := HQB.out; omega)
                simp only [List.length_map, List.map_map]
                exact h2
end Go.Proofs.Ytjakhemolecbnaa
end

/-
  Both Reads tell alike; the law's same.
-/
section
set_option linter.unusedVariables false
set_option linter.unusedSimpArgs false
namespace Go.Proofs.Ytjakhemolecbnaa
open Go.RowKit

/-- A record in a block. -/
structure RecAt (w : World) (g : Nat) (T : TypeId) (r : Rp) (A : Option Addr) (c : Nat) : Prop where
  at_ : w.heap[g]? = some (.cells #[.int .i64 r.kind, .string (strB r.tx), .slice A r.groups.length c, .string (strB r.body)] T (0, 0))
  rg : RG w A r.groups
theorem RecAt.below {w w' : World} {g : Nat} {T : TypeId} {r : Rp} {A : Option Addr} {c : Nat} (h : RecAt w g T r A c) (hb : Below w.heap.size w w') : RecAt w' g T r A c :=
  ⟨(hb.block g (Array.getElem?_eq_some_iff.1 h.at_).1).trans h.at_, h.rg.below hb⟩
theorem RecAt.c {w : World} {g : Nat} {T : TypeId} {r : Rp} {A : Option Addr} {c : Nat} (h : RecAt w g T r A c) :
    w.cell? ⟨g, 0, none⟩ = some (.int .i64 r.kind) ∧ w.cell? ⟨g, 1, none⟩ = some (.string (strB r.tx)) ∧ w.cell? ⟨g, 2, none⟩ = some (.slice A r.groups.length c) ∧ w.cell? ⟨g, 3, none⟩ = some (.string (strB r.body)) :=
  ⟨(cell_of_row w g 0 _ _ _ h.at_).trans rfl, (cell_of_row w g 1 _ _ _ h.at_).trans rfl, (cell_of_row w g 2 _ _ _ h.at_).trans rfl, (cell_of_row w g 3 _ _ _ h.at_).trans rfl⟩

end Go.Proofs.Ytjakhemolecbnaa
end
