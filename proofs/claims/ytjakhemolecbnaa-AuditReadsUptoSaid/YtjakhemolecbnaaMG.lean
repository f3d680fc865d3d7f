/-
  The texts TextG, Claim, Pure20, Known20, Within, Tame, SameI, Args, Arg20, Out20, Ok20 of this proof in one: what each proves is said at its head. No conditions beyond those that each theorem says.
-/
import Derived.ProofKit
import Derived.Deep.Matrix
import Derived.Deep.Strs
import Derived.Deep.Grids
import Derived.Deep.SlicePairs
import Derived.SizedLaws
import Derived.Test.YtjakhemolecbnaaME
import Derived.Test.YtjakhemolecbnaaMD
import Derived.Test.YtjakhemolecbnaaMC
import Derived.Test.YtjakhemolecbnaaMF
import Derived.Test.YtjakhemolecbnaaMA

/-
  The walks of a record's text: the reference's, and the program's.
-/
section
set_option linter.unusedVariables false
set_option linter.unusedSimpArgs false
namespace Go.Proofs.Ytjakhemolecbnaa
open Go.RowKit

/-- The lowest byte of a number. -/
def b8 (x : Int) : UInt8 := UInt8.ofNat (x % 256).toNat
theorem un8_b8 (x : Int) : un8 (b8 x) = x % 256 := by
  unfold un8 b8
  rw [UInt8.toNat_ofNat']
  omega
theorem b8_un8 (x : UInt8) : b8 (un8 x) = x := by
  have h := un8_b8 (un8 x)
  have hr := un8_range x
  have h2 : un8 (b8 (un8 x)) = un8 x := by rw [h]; omega
  have h3 : ((b8 (un8 x)).toNat : Int) = x.toNat := h2
  exact UInt8.toNat_inj.1 (by omega)
def gb8 (l : List Int) : List UInt8 := l.map b8
/-- A record's text. -/
def txtOf (r : Rp) : List UInt8 := [b8 r.kind] ++ be4n r.tx.length ++ r.tx ++ [b8 (r.groups.length : Int)] ++ gb8 r.groups ++ be4n r.body.length ++ r.body

set_option maxRecDepth 100000 in
set_option maxHeartbeats 4000000 in
theorem refByte_any (A : Option Addr) (n c : Nat) (b : List UInt8) (x : Int) (w : World) (hl : b.length = n) (hb : b.length ≤ 100000000) (hr : RB w A b) :
    Calls Try.prog 44 #[.slice A n c, .int .i64 x] w fun e w' => ∃ v, e = .returned v ∧ w'.ownsRow w.heap.size 5 1 v (b.length + 1) (bv (b ++ [b8 x])) ∧ Below w.heap.size w w' := by
  subst hl
  have HR := Lib.hid hr
  clear hr
  have hb0 : Below w.heap.size w (w.alloc (.cells #[] 5)) := (Below.refl _ _).alloc (Nat.le_refl _) _
  have E0 := Lib.hid (show (w.alloc (.cells #[] 5)).ownsRow w.heap.size 5 1 (.slice (some ⟨w.heap.size, 0, none⟩) 0 0) 0 [] from
    ⟨rfl, .inr ⟨_, 0, #[], rfl, Nat.le_refl _, heap_alloc_new w _, Nat.le_refl _, by simp [maxLen], rfl, rfl⟩⟩)
  have HB0 := Lib.hid hb0
  clear hb0
  go_enter Try.func44, Try.ntmps44
  go_wp2_with (at_builtin; refine append_any rfl (.tmp 5) (.tmp 6) 25 rfl w.heap.size 5 (.int .u8 0) 1 1 Try.underlying25 info8 rfl (by omega) (by omega) (.slice (some ⟨w.heap.size, 0, none⟩) 0 0) 0 [] rfl E0.out A b.length c (bv b) rfl (by rw [bv_length]; omega) (HR.out.below HB0.out).cells (bv_one _) (by omega) HB0.out.size ?_)
  intro v4 w4 ho4 hg4 hat4
  obtain ⟨A4, c4, rfl, _⟩ := own_slice ho4
  have ho4' : w4.ownsRow w.heap.size 5 1 (.slice A4 b.length c4) b.length (bv b) := by simpa using ho4
  have HB4 := Lib.hid (below_upd (F := fun k => k = w.heap.size) HB0.out HB0.out.size ((Upd.refl (fun k => k = w.heap.size) (w.alloc (.cells #[] 5))).grown hg4 (fun k hk _ => (Option.some.inj (show some w.heap.size = some k from hk)).symm)) (fun k hk => by rw [hk]; exact Nat.le_refl _))
  have HC := Lib.hid (show bv [b8 x] = [.int .u8 (x % 256)] by show [Value.int .u8 (un8 (b8 x))] = _; rw [un8_b8])
  have HO4 := Lib.hid ho4'
  clear ho4 ho4' hg4 hat4
  go_wp2_with (at_builtin; refine append_any rfl (.tmp 7) (.tmp 10) 25 rfl w.heap.size 5 (.int .u8 0) 1 1 Try.underlying25 info8 rfl (by omega) (by omega) (.slice A4 b.length c4) b.length (bv b) (by first | rfl | simp [Act.eval]) (HO4.out.alloc _) (some ⟨w4.heap.size, 0, none⟩) 1 1 [.int .u8 (x % 256)] rfl rfl (RC_newL w4 _ _) (by rw [← HC.out]; exact bv_one _) (by omega) (by have := HB4.out.size; simp; omega) ?_)
  intro v5 w5 ho5 hg5 hat5
  have HB5 := Lib.hid (below_upd (F := fun k => (Value.slice A4 b.length c4).ownBlock = some k) HB4.out HB4.out.size (((Upd.refl (fun k => (Value.slice A4 b.length c4).ownBlock = some k) w4).alloc _).grown hg5 (fun k hk _ => hk)) (fun k hk => (HO4.out.lt k hk).1))
  have HO5 := Lib.hid (show w5.ownsRow w.heap.size 5 1 v5 (b.length + 1) (bv (b ++ [b8 x])) by rw [bv_append, HC.out]; exact ho5)
  clear ho5 hg5 hat5
  go_wp2_with fail
  go_ret
  exact ⟨_, rfl, HO5.out, HB5.out⟩

set_option maxHeartbeats 4000000 in
theorem writerByte3_any (w : World) (B p : Nat) (v : Value) (b : List UInt8) (h : WriterAt w B p v b) (x : Int) (hbl : b.length ≤ 100000000) :
    Calls Try.prog 47 #[.pointer (some ⟨p, 0, none⟩), .int .i64 x] w fun e w' => ∃ v', e = .returned (.tuple #[]) ∧ WriterAt w' B p v' (b ++ [b8 x]) ∧ Upd (WF p v) w w' ∧ (∀ k, v'.ownBlock = some k → v.ownBlock = some k ∨ w.heap.size ≤ k) := by
  have H := Lib.hid h
  obtain ⟨nn, hnn⟩ : ∃ nn : Nat, nn = (x % 18446744073709551616).toNat := ⟨_, rfl⟩
  have hw : IntKind.u64.wrap x = (nn : Int) := by rw [IntKind.wrap_u64, hnn]; omega
  have hp : putPre nn 1 1 = [b8 x] := by
    have e : UInt8.ofNat nn = b8 x := by
      unfold b8
      apply UInt8.toNat_inj.1
      rw [UInt8.toNat_ofNat', UInt8.toNat_ofNat', hnn]
      omega
    simp [putPre, byteAt, List.range, List.range.loop, e]
  have hlt : nn < 18446744073709551616 := by omega
  have HP := Lib.hid hp
  clear h hp hnn
  go_enter Try.func47, Try.ntmps47
  go_wp2_with fail
  refine (put2_any _ B p v b H.out nn 1 hlt (by omega) hbl).mono ?_
  rw [HP.out]
  rintro e w1 ⟨v1, rfl, hw1, hb1, hv1⟩
  have HW := Lib.hid hw1
  have HB := Lib.hid hb1
  have HV := Lib.hid hv1
  clear hw1 hb1 hv1
  go_wp2_with fail
  go_end0
  exact ⟨_, rfl, HW.out, HB.out, HV.out⟩

theorem gb8_take (l : List Int) (i : Nat) (h : i < l.length) : gb8 (l.take (i + 1)) = gb8 (l.take i) ++ [b8 l[i]] := by
  unfold gb8
  rw [List.take_succ_eq_append_getElem h, List.map_append]
  rfl

set_option maxRecDepth 100000 in
set_option maxHeartbeats 8000000 in
theorem refText20_any (m : Rm) (w : World) (hr : RG w m.A m.groups) (ht : m.tx.length ≤ 1500000) (hg : m.groups.length ≤ 100000) (hbd : m.body.length ≤ 1500000) :
    Calls Try.prog 21 #[.agg m.cells.toArray] w fun e w' => e = .returned (.string (strB (txtOf m.p))) ∧ Below w.heap.size w w' := by
  obtain ⟨mk, mt, mA, mc, mg, mb⟩ := m
  dsimp only at hr ht hg hbd
  have hbx : (w.alloc (.cells (⟨mk, mt, mA, mc, mg, mb⟩ : Rm).cells.toArray 55)).heap[w.heap.size]? = some (.cells (⟨mk, mt, mA, mc, mg, mb⟩ : Rm).cells.toArray 55 (0, 0)) := heap_alloc_new w _
  have hb1 : Below w.heap.size w (w.alloc (.cells (⟨mk, mt, mA, mc, mg, mb⟩ : Rm).cells.toArray 55)) := (Below.refl _ _).alloc (Nat.le_refl _) _
  obtain ⟨w1, hw1⟩ : ∃ w1, w1 = w.alloc (.cells (⟨mk, mt, mA, mc, mg, mb⟩ : Rm).cells.toArray 55) := ⟨_, rfl⟩
  rw [← hw1] at hbx hb1
  obtain ⟨gb, hgb⟩ : ∃ gb, gb = w.heap.size := ⟨_, rfl⟩
  rw [← hgb] at hbx
  have G0 : w1.cell? ⟨gb, 0, none⟩ = some (.int .i64 mk) := (cell_of_row w1 gb 0 _ _ _ hbx).trans rfl
  have G1 : w1.cell? ⟨gb, 1, none⟩ = some (.string (strB mt)) := (cell_of_row w1 gb 1 _ _ _ hbx).trans rfl
  have G2 : w1.cell? ⟨gb, 2, none⟩ = some (.slice mA mg.length mc) := (cell_of_row w1 gb 2 _ _ _ hbx).trans rfl
  have G3 : w1.cell? ⟨gb, 3, none⟩ = some (.string (strB mb)) := (cell_of_row w1 gb 3 _ _ _ hbx).trans rfl
  have HB1 := Lib.hid hb1
  have HW1 := Lib.hid hw1
  have HGB := Lib.hid hgb
  have HR := Lib.hid (hr.below hb1)
  have HT := Lib.hid ht
  have HG := Lib.hid hg
  have HBD := Lib.hid hbd
  clear hbx hb1 hw1 hgb hr ht hbd
  go_enter Try.func21, Try.ntmps21
  go_upto_region 1 with fail
  rw [show w.alloc (.cells (⟨mk, mt, mA, mc, mg, mb⟩ : Rm).cells.toArray 55) = w1 from HW1.out.symm, ← HGB.out]
  refine region_by (fun W => Below w1.heap.size w1 W) [(fun v _ => v = .pointer (some ⟨gb, 0, none⟩)), (fun v _ => v = .int .i64 mk), fun v W => ∃ A c, v = .slice A ([b8 mk]).length c ∧ RB W A ([b8 mk]), (fun v _ => v = .pointer (some ⟨gb, 1, none⟩)), (fun v _ => v = .string (strB mt)), fun v W => ∃ A c, v = .slice A ([b8 mk] ++ be4n mt.length ++ mt).length c ∧ RB W A ([b8 mk] ++ be4n mt.length ++ mt), (fun v _ => v = .pointer (some ⟨gb, 2, none⟩)), (fun v _ => v = .slice mA mg.length mc), (fun v _ => v = .int .i64 (mg.length : Int)), fun v W => ∃ A c, v = .slice A ([b8 mk] ++ be4n mt.length ++ mt ++ [b8 (mg.length : Int)]).length c ∧ RB W A ([b8 mk] ++ be4n mt.length ++ mt ++ [b8 (mg.length : Int)]), fun v W => ∃ A c, v = .slice A ([b8 mk] ++ be4n mt.length ++ mt ++ [b8 (mg.length : Int)]).length c ∧ RB W A ([b8 mk] ++ be4n mt.length ++ mt ++ [b8 (mg.length : Int)])] (by kernel_rfl) (by kernel_rfl) (by kernel_rfl) rfl ((Below.refl _ _).drew) ?ok1 ?fin1
  case ok1 =>
    refine ⟨?_, ?_, ?_, ?_, ?_, ?_, ?_, ?_, ?_, ?_, ?_, trivial⟩
    · intro a' w' K hI hd hq hK
      have e1 : a'.eval (.tmp 1) = .pointer (some ⟨gb, 0, none⟩) := (hq 1 (by kernel_rfl)).trans rfl
      clear hd hq
      refine op_value (wanted_free _ _ (by rfl)) (v := .pointer (some ⟨gb, 0, none⟩)) (w'' := w') ?_ (hK _ _ hI (fun _ _ h => h) rfl)
      clear hK
      simp only [execOp, e1]
      have f1 : a'.tmps[1]?.getD undef = .pointer (some ⟨gb, 0, none⟩) := (Array.getD_eq_getD_getElem? ..).symm.trans e1
      clear e1
      first | rfl | (go_simp <;> exact IntWalk.i64_in _ (by omega))
    · intro a' w' K hI hd hq hK
      have e5 : a'.eval (.tmp 5) = .pointer (some ⟨gb, 0, none⟩) := (hd 0 5 (by kernel_rfl))
      clear hd hq
      have cx := cell_below hI G0
      refine op_value (wanted_free _ _ (by rfl)) (v := .int .i64 mk) (w'' := w') ?_ (hK _ _ hI (fun _ _ h => h) rfl)
      clear hK
      simp only [execOp, e5]
      have f5 : a'.tmps[5]?.getD undef = .pointer (some ⟨gb, 0, none⟩) := (Array.getD_eq_getD_getElem? ..).symm.trans e5
      clear e5
      first | rfl | (go_simp <;> exact IntWalk.i64_in _ (by omega))
    · intro a' w' K hI hd hq hK
      have e6 : a'.eval (.tmp 6) = .int .i64 mk := (hd 1 6 (by kernel_rfl))
      clear hd hq
      refine op_call #[.slice none 0 0, .int .i64 mk] (wanted_free _ _ (by rfl)) rfl Try.func44 (by kernel_rfl) rfl (by simp only [List.map_toArray, List.map_cons, List.map_nil, e6]; try rfl) ?_
      refine (refByte_any none 0 0 [] mk w' rfl (by decide) (by intro h; exact absurd h (by decide))).mono ?_
      rintro e w6 ⟨v6, rfl, ho6, hb6⟩
      obtain ⟨A6, c6, rfl, _⟩ := own_slice ho6
      exact ⟨_, rfl, hK _ _ (below_below hI hI.size hb6) (fun j u => by match j with | 0 => exact fun h => h | 1 => exact fun h => h | 2 => exact fun ⟨A, c, h1, h2⟩ => ⟨A, c, h1, h2.below hb6⟩ | 3 => exact fun h => h | 4 => exact fun h => h | 5 => exact fun ⟨A, c, h1, h2⟩ => ⟨A, c, h1, h2.below hb6⟩ | 6 => exact fun h => h | 7 => exact fun h => h | 8 => exact fun h => h | 9 => exact fun ⟨A, c, h1, h2⟩ => ⟨A, c, h1, h2.below hb6⟩ | 10 => exact fun ⟨A, c, h1, h2⟩ => ⟨A, c, h1, h2.below hb6⟩ | _ + 11 => exact fun _ => trivial) ⟨A6, c6, rfl, own_RC ho6 |>.bytes⟩⟩
    · intro a' w' K hI hd hq hK
      have e1 : a'.eval (.tmp 1) = .pointer (some ⟨gb, 0, none⟩) := (hq 1 (by kernel_rfl)).trans rfl
      clear hd hq
      refine op_value (wanted_free _ _ (by rfl)) (v := .pointer (some ⟨gb, 1, none⟩)) (w'' := w') ?_ (hK _ _ hI (fun _ _ h => h) rfl)
      clear hK
      simp only [execOp, e1]
      have f1 : a'.tmps[1]?.getD undef = .pointer (some ⟨gb, 0, none⟩) := (Array.getD_eq_getD_getElem? ..).symm.trans e1
      clear e1
      first | rfl | (go_simp <;> exact IntWalk.i64_in _ (by omega))
    · intro a' w' K hI hd hq hK
      have e8 : a'.eval (.tmp 8) = .pointer (some ⟨gb, 1, none⟩) := (hd 3 8 (by kernel_rfl))
      clear hd hq
      have cx := cell_below hI G1
      refine op_value (wanted_free _ _ (by rfl)) (v := .string (strB mt)) (w'' := w') ?_ (hK _ _ hI (fun _ _ h => h) rfl)
      clear hK
      simp only [execOp, e8]
      have f8 : a'.tmps[8]?.getD undef = .pointer (some ⟨gb, 1, none⟩) := (Array.getD_eq_getD_getElem? ..).symm.trans e8
      clear e8
      first | rfl | (go_simp <;> exact IntWalk.i64_in _ (by omega))
    · intro a' w' K hI hd hq hK
      have e7 := hd 2 7 (by kernel_rfl)
      have e9 : a'.eval (.tmp 9) = .string (strB mt) := (hd 4 9 (by kernel_rfl))
      clear hd hq
      obtain ⟨A0, c0, e7, hr0⟩ := (show ∃ A c, a'.eval (.tmp 7) = .slice A ([b8 mk]).length c ∧ RB w' A ([b8 mk]) from e7)
      refine op_call #[.slice A0 ([b8 mk]).length c0, .string (strB mt)] (wanted_free _ _ (by rfl)) rfl Try.func45 (by kernel_rfl) rfl (by simp only [List.map_toArray, List.map_cons, List.map_nil, e7, e9]; try rfl) ?_
      refine (refText_any A0 _ c0 [b8 mk] mt w' rfl (by simp) hr0 HT.out).mono ?_
      rintro e w6 ⟨v6, rfl, ho6, hb6⟩
      obtain ⟨A6, c6, rfl, _⟩ := own_slice ho6
      exact ⟨_, rfl, hK _ _ (below_below hI hI.size hb6) (fun j u => by match j with | 0 => exact fun h => h | 1 => exact fun h => h | 2 => exact fun ⟨A, c, h1, h2⟩ => ⟨A, c, h1, h2.below hb6⟩ | 3 => exact fun h => h | 4 => exact fun h => h | 5 => exact fun ⟨A, c, h1, h2⟩ => ⟨A, c, h1, h2.below hb6⟩ | 6 => exact fun h => h | 7 => exact fun h => h | 8 => exact fun h => h | 9 => exact fun ⟨A, c, h1, h2⟩ => ⟨A, c, h1, h2.below hb6⟩ | 10 => exact fun ⟨A, c, h1, h2⟩ => ⟨A, c, h1, h2.below hb6⟩ | _ + 11 => exact fun _ => trivial) ⟨A6, c6, by simp [be4n_length]; try omega, own_RC ho6 |>.bytes⟩⟩
    · intro a' w' K hI hd hq hK
      have e1 : a'.eval (.tmp 1) = .pointer (some ⟨gb, 0, none⟩) := (hq 1 (by kernel_rfl)).trans rfl
      clear hd hq
      refine op_value (wanted_free _ _ (by rfl)) (v := .pointer (some ⟨gb, 2, none⟩)) (w'' := w') ?_ (hK _ _ hI (fun _ _ h => h) rfl)
      clear hK
      simp only [execOp, e1]
      have f1 : a'.tmps[1]?.getD undef = .pointer (some ⟨gb, 0, none⟩) := (Array.getD_eq_getD_getElem? ..).symm.trans e1
      clear e1
      first | rfl | (go_simp <;> exact IntWalk.i64_in _ (by omega))
    · intro a' w' K hI hd hq hK
      have e11 : a'.eval (.tmp 11) = .pointer (some ⟨gb, 2, none⟩) := (hd 6 11 (by kernel_rfl))
      clear hd hq
      have cx := cell_below hI G2
      refine op_value (wanted_free _ _ (by rfl)) (v := .slice mA mg.length mc) (w'' := w') ?_ (hK _ _ hI (fun _ _ h => h) rfl)
      clear hK
      simp only [execOp, e11]
      have f11 : a'.tmps[11]?.getD undef = .pointer (some ⟨gb, 2, none⟩) := (Array.getD_eq_getD_getElem? ..).symm.trans e11
      clear e11
      first | rfl | (go_simp <;> exact IntWalk.i64_in _ (by omega))
    · intro a' w' K hI hd hq hK
      have e12 : a'.eval (.tmp 12) = .slice mA mg.length mc := (hd 7 12 (by kernel_rfl))
      clear hd hq
      refine op_value (wanted_free _ _ (by rfl)) (v := .int .i64 (mg.length : Int)) (w'' := w') ?_ (hK _ _ hI (fun _ _ h => h) rfl)
      clear hK
      simp only [execOp, e12]
      have f12 : a'.tmps[12]?.getD undef = .slice mA mg.length mc := (Array.getD_eq_getD_getElem? ..).symm.trans e12
      clear e12
      first | rfl | (go_simp <;> exact IntWalk.i64_in _ (by omega))
    · intro a' w' K hI hd hq hK
      have e10 := hd 5 10 (by kernel_rfl)
      have e13 : a'.eval (.tmp 13) = .int .i64 (mg.length : Int) := (hd 8 13 (by kernel_rfl))
      clear hd hq
      obtain ⟨A0, c0, e10, hr0⟩ := (show ∃ A c, a'.eval (.tmp 10) = .slice A ([b8 mk] ++ be4n mt.length ++ mt).length c ∧ RB w' A ([b8 mk] ++ be4n mt.length ++ mt) from e10)
      refine op_call #[.slice A0 ([b8 mk] ++ be4n mt.length ++ mt).length c0, .int .i64 (mg.length : Int)] (wanted_free _ _ (by rfl)) rfl Try.func44 (by kernel_rfl) rfl (by simp only [List.map_toArray, List.map_cons, List.map_nil, e10, e13]; try rfl) ?_
      refine (refByte_any A0 _ c0 ([b8 mk] ++ be4n mt.length ++ mt) (mg.length : Int) w' rfl (by have := HT.out; simp [be4n_length]; omega) hr0).mono ?_
      rintro e w6 ⟨v6, rfl, ho6, hb6⟩
      obtain ⟨A6, c6, rfl, _⟩ := own_slice ho6
      exact ⟨_, rfl, hK _ _ (below_below hI hI.size hb6) (fun j u => by match j with | 0 => exact fun h => h | 1 => exact fun h => h | 2 => exact fun ⟨A, c, h1, h2⟩ => ⟨A, c, h1, h2.below hb6⟩ | 3 => exact fun h => h | 4 => exact fun h => h | 5 => exact fun ⟨A, c, h1, h2⟩ => ⟨A, c, h1, h2.below hb6⟩ | 6 => exact fun h => h | 7 => exact fun h => h | 8 => exact fun h => h | 9 => exact fun ⟨A, c, h1, h2⟩ => ⟨A, c, h1, h2.below hb6⟩ | 10 => exact fun ⟨A, c, h1, h2⟩ => ⟨A, c, h1, h2.below hb6⟩ | _ + 11 => exact fun _ => trivial) ⟨A6, c6, by simp [be4n_length]; try omega, own_RC ho6 |>.bytes⟩⟩
    · intro a' w' K hI hd hq hK
      have e14 := hd 9 14 (by kernel_rfl)
      clear hd hq
      refine op_value (wanted_free _ _ (by rfl)) (v := a'.eval (.tmp 14)) (w'' := w') ?_ (hK _ _ hI (fun _ _ h => h) e14)
      simp only [execOp, Sem.run_pure]
  case fin1 =>
    rintro w' hI _ rfl _ rfl _ _ _ rfl _ rfl _ _ _ rfl _ rfl _ rfl _ _ v14 hst
    simp only [Act.put, List.setIfInBounds_toArray, List.set_cons_zero, List.set_cons_succ, FinGoal]
    obtain ⟨A3, c3, rfl, hr3⟩ := hst
    have HI := Lib.hid hI
    have HR3 := Lib.hid hr3
    have g2 := cell_below hI G2
    have g3 := cell_below hI G3
    obtain ⟨P0, hP0⟩ : ∃ P0, P0 = [b8 mk] ++ be4n mt.length ++ mt ++ [b8 (mg.length : Int)] := ⟨_, rfl⟩
    rw [← hP0] at HR3 ⊢
    have hP0l : P0.length ≤ 1500010 := by rw [hP0]; have := HT.out; simp [be4n_length]; omega
    have HP0 := Lib.hid hP0
    have HP0L := Lib.hid hP0l
    clear hI hr3 G0 G1 hP0 hP0l g2 g3
    go_wp2_with fail
    go_loopg [3,4] mg.length (fun k s3 s4 wr => ∃ (i : Nat) (A : Option Addr) (c : Nat), i ≤ mg.length ∧ k = mg.length - i ∧ s4 = .int .i64 (i : Int) ∧ s3 = .slice A (P0 ++ gb8 (mg.take i)).length c ∧ RB wr A (P0 ++ gb8 (mg.take i)) ∧ Below w1.heap.size w1 wr)
    case atStart => exact ⟨0, A3, c3, Nat.zero_le _, by omega, rfl, by simp [gb8], by simpa [gb8] using HR3.out, HI.out⟩
    case round =>
      obtain ⟨i, A, c, hi, hk, rfl, rfl, hrb, hb⟩ := hrel
      have HK := Lib.hid hk
      have HRB := Lib.hid hrb
      have HB := Lib.hid hb
      have g2 := cell_below hb G2
      have g3 := cell_below hb G3
      have hPl : (P0 ++ gb8 (mg.take i)).length ≤ 1700000 := by rw [List.length_append]; unfold gb8; rw [List.length_map, List.length_take]; have := HP0L.out; omega
      have HPL := Lib.hid hPl
      clear hk hrb hb
      by_cases hlt : i < mg.length
      · obtain ⟨bg, og, rfl, hcg⟩ := HR.out.part (by omega)
        have kx := cell_below HB.out (hcg i hlt)
        have HTK := Lib.hid (gb8_take mg i hlt)
        obtain ⟨x, hx⟩ : ∃ x, x = mg[i] := ⟨_, rfl⟩
        rw [← hx] at kx HTK
        have i0 : (0 : Int) ≤ (i : Int) := by omega
        have i1 : (i : Int) < (mg.length : Int) := by omega
        have HLT := Lib.hid hlt
        obtain ⟨PI, hPI⟩ : ∃ PI, PI = P0 ++ gb8 (mg.take i) := ⟨_, rfl⟩
        have HTK2 := Lib.hid (show P0 ++ gb8 (mg.take (i + 1)) = PI ++ [b8 x] by rw [HTK.out, hPI, List.append_assoc])
        rw [← hPI] at HRB HPL ⊢
        clear hcg hx hlt hi hPl hPI
        go_wp2_with fail
        refine (refByte_any A PI.length c PI x _ rfl (by have := HPL.out; omega) HRB.out).mono ?_
        rintro e w6 ⟨v6, rfl, ho6, hb6⟩
        obtain ⟨A6, c6, rfl, _⟩ := own_slice ho6
        have HR6 := Lib.hid (own_RC ho6).bytes
        have HB6 := Lib.hid (below_below HB.out HB.out.size hb6)
        clear ho6 hb6 kx
        go_wp2_with fail
        go_roundg (mg.length - (i + 1))
        case measure => have := HK.out; have := HLT.out; omega
        case rel => exact ⟨i + 1, A6, c6, HLT.out, rfl, by go_num, by rw [HTK2.out, List.length_append]; rfl, by rw [HTK2.out]; exact HR6.out, HB6.out⟩
      · obtain rfl : i = mg.length := by omega
        rw [List.take_length] at HRB HPL ⊢
        obtain ⟨PI, hPI⟩ : ∃ PI, PI = P0 ++ gb8 mg := ⟨_, rfl⟩
        have HPI := Lib.hid hPI
        rw [← hPI] at HRB HPL ⊢
        clear hlt hi hPI hPl
        go_wp2_with fail
        refine (refText_any A PI.length c PI mb _ rfl (by have := HPL.out; omega) HRB.out HBD.out).mono ?_
        rintro e w6 ⟨v6, rfl, ho6, hb6⟩
        obtain ⟨A6, c6, rfl, _⟩ := own_slice ho6
        have hst := run_string_RB (P := Try.prog) w6 25 9 5 Try.underlying25 Try.underlying5 Try.underlying9 A6 (PI.length + 4 + mb.length) c6 (PI ++ be4n mb.length ++ mb) (by simp [be4n_length]; omega) (own_RC ho6).bytes
        have HB6 := Lib.hid (below_below HB.out HB.out.size hb6)
        clear ho6 hb6 g2 g3
        go_wp2_with fail
        go_ret
        refine ⟨?_, below_below HB1.out HB1.out.size HB6.out⟩
        show Ending.returned (.string (strB (PI ++ (be4n mb.length ++ mb)))) = _
        rw [← List.append_assoc, HPI.out, HP0.out]
        rfl

set_option maxRecDepth 100000 in
set_option maxHeartbeats 8000000 in
theorem auditText_any (m : Rm) (w : World) (hr : RG w m.A m.groups) (ht : m.tx.length ≤ 1500000) (hg : m.groups.length ≤ 100000) (hbd : m.body.length ≤ 1500000) :
    Calls Try.prog 23 #[.agg m.cells.toArray] w fun e w' => e = .returned (.string (strB (txtOf m.p))) ∧ Below w.heap.size w w' := by
  obtain ⟨mk, mt, mA, mc, mg, mb⟩ := m
  dsimp only at hr ht hg hbd
  have hbx := box_new w (⟨mk, mt, mA, mc, mg, mb⟩ : Rm)
  have hb1 : Below w.heap.size w (w.alloc (.cells (⟨mk, mt, mA, mc, mg, mb⟩ : Rm).cells.toArray 24)) := (Below.refl _ _).alloc (Nat.le_refl _) _
  obtain ⟨w1, hw1⟩ : ∃ w1, w1 = w.alloc (.cells (⟨mk, mt, mA, mc, mg, mb⟩ : Rm).cells.toArray 24) := ⟨_, rfl⟩
  rw [← hw1] at hbx hb1
  obtain ⟨gb, hgb⟩ : ∃ gb, gb = w.heap.size := ⟨_, rfl⟩
  rw [← hgb] at hbx
  have G0 : w1.cell? ⟨gb, 0, none⟩ = some (.int .i64 mk) := (cell_of_row w1 gb 0 _ _ _ hbx).trans rfl
  have G1 : w1.cell? ⟨gb, 1, none⟩ = some (.string (strB mt)) := (cell_of_row w1 gb 1 _ _ _ hbx).trans rfl
  have G2 : w1.cell? ⟨gb, 2, none⟩ = some (.slice mA mg.length mc) := (cell_of_row w1 gb 2 _ _ _ hbx).trans rfl
  have G3 : w1.cell? ⟨gb, 3, none⟩ = some (.string (strB mb)) := (cell_of_row w1 gb 3 _ _ _ hbx).trans rfl
  have HGS := Lib.hid (show ∀ W, Below w1.heap.size w1 W → W.cell? ⟨gb, 0, none⟩ = some (.int .i64 mk) ∧ W.cell? ⟨gb, 1, none⟩ = some (.string (strB mt)) ∧ W.cell? ⟨gb, 2, none⟩ = some (.slice mA mg.length mc) ∧ W.cell? ⟨gb, 3, none⟩ = some (.string (strB mb)) from fun W hW => ⟨cell_below hW G0, cell_below hW G1, cell_below hW G2, cell_below hW G3⟩)
  have HB1 := Lib.hid hb1
  have HW1 := Lib.hid hw1
  have HGB := Lib.hid hgb
  have HR := Lib.hid (hr.below hb1)
  have HT := Lib.hid ht
  have HG := Lib.hid hg
  have HBD := Lib.hid hbd
  clear hbx hb1 hw1 hgb hr ht hbd G0 G1 G2 G3
  go_enter Try.func23, Try.ntmps23
  go_upto_region 1 with fail
  rw [show w.alloc (.cells (⟨mk, mt, mA, mc, mg, mb⟩ : Rm).cells.toArray 24) = w1 from HW1.out.symm, ← HGB.out]
  go_wp2_with fail
  refine (newWriter_any w1).mono ?_
  rintro e w2 ⟨rfl, hw, hb⟩
  obtain ⟨p, hp⟩ : ∃ p, p = w1.heap.size := ⟨_, rfl⟩
  rw [← hp] at hw ⊢
  have HP := Lib.hid hp
  have W2 := Lib.hid hw
  have B2 := Lib.hid (show Below w1.heap.size w1 w2 by rw [← hp]; rw [hp]; rw [← hp] at hb; rw [hp] at hb; exact hb)
  clear hw hb hp
  have HWF := Lib.hid (show ∀ (v : Value) (b : List UInt8) (W W' : World), WriterAt W p p v b → Below w1.heap.size w1 W → Upd (WF p v) W W' → Below w1.heap.size w1 W' from fun v b W W' hw hb hu => below_upd hb hb.size hu (fun k hk => by
    rcases hk with hk | hk
    · rw [hk, HP.out]; exact Nat.le_refl _
    · have := (World.ownsRow.lt hw.own k hk).1; have := HP.out; omega))
  have g0 := (HGS.out w2 B2.out).1
  go_wp2_with fail
  refine (writerByte3_any _ _ p _ _ W2.out mk (by simp)).mono ?_
  rw [List.nil_append]
  rintro e w3 ⟨v3, rfl, hw, hu, _⟩
  have W3 := Lib.hid hw
  have B3 := Lib.hid (HWF.out _ _ _ _ W2.out B2.out hu)
  clear hw hu g0
  have g1 := (HGS.out w3 B3.out).2.1
  go_wp2_with fail
  refine (writerText2_any _ _ p _ _ W3.out mt HT.out (by simp)).mono ?_
  rintro e w4 ⟨v4, rfl, hw, hu, _⟩
  have W4 := Lib.hid hw
  have B4 := Lib.hid (HWF.out _ _ _ _ W3.out B3.out hu)
  clear hw hu g1
  have g2 := (HGS.out w4 B4.out).2.2.1
  go_wp2_with fail
  refine (writerByte3_any _ _ p _ _ W4.out (mg.length : Int) (by have := HT.out; simp [be4n_length]; omega)).mono ?_
  rintro e w5 ⟨v5, rfl, hw, hu, _⟩
  obtain ⟨P0, hP0⟩ : ∃ P0, P0 = [b8 mk] ++ (be4n mt.length ++ mt) ++ [b8 (mg.length : Int)] := ⟨_, rfl⟩
  rw [← hP0] at hw
  have HP0 := Lib.hid hP0
  have HP0L := Lib.hid (show P0.length ≤ 1500010 by rw [hP0]; have := HT.out; simp [be4n_length]; omega)
  have W5 := Lib.hid hw
  have B5 := Lib.hid (HWF.out _ _ _ _ W4.out B4.out hu)
  clear hw hu g2 hP0
  have g2 := (HGS.out w5 B5.out).2.2.1
  go_wp2_with fail
  go_loopg [23] mg.length (fun k s23 wr => ∃ (i : Nat) (v : Value), i ≤ mg.length ∧ k = mg.length - i ∧ s23 = .int .i64 (i : Int) ∧ WriterAt wr p p v (P0 ++ gb8 (mg.take i)) ∧ Below w1.heap.size w1 wr)
  case atStart => exact ⟨0, v5, Nat.zero_le _, by omega, rfl, by simpa [gb8] using W5.out, B5.out⟩
  case round =>
    obtain ⟨i, v, hi, hk, rfl, hw, hb⟩ := hrel
    have HK := Lib.hid hk
    have HW := Lib.hid hw
    have HB := Lib.hid hb
    have HPL := Lib.hid (show (P0 ++ gb8 (mg.take i)).length ≤ 1700000 by rw [List.length_append]; unfold gb8; rw [List.length_map, List.length_take]; have := HP0L.out; omega)
    clear hk hw hb g2
    by_cases hlt : i < mg.length
    · obtain ⟨bg, og, rfl, hcg⟩ := HR.out.part (by omega)
      have kx := cell_below HB.out (hcg i hlt)
      have HTK := Lib.hid (gb8_take mg i hlt)
      obtain ⟨x, hx⟩ : ∃ x, x = mg[i] := ⟨_, rfl⟩
      rw [← hx] at kx HTK
      have i0 : (0 : Int) ≤ (i : Int) := by omega
      have i1 : (i : Int) < (mg.length : Int) := by omega
      have HLT := Lib.hid hlt
      clear hcg hx hlt hi
      go_wp2_with fail
      refine (writerByte3_any _ _ p _ _ HW.out x (by have := HPL.out; omega)).mono ?_
      rintro e w6 ⟨v6, rfl, hw, hu, _⟩
      have W6 := Lib.hid (show WriterAt w6 p p v6 (P0 ++ gb8 (mg.take (i + 1))) by rw [HTK.out, ← List.append_assoc]; exact hw)
      have HB6 := Lib.hid (HWF.out _ _ _ _ HW.out HB.out hu)
      clear hw hu kx
      go_wp2_with fail
      go_roundg (mg.length - (i + 1))
      case measure => have := HK.out; have := HLT.out; omega
      case rel => exact ⟨i + 1, v6, HLT.out, rfl, by go_num, W6.out, HB6.out⟩
    · obtain rfl : i = mg.length := by omega
      rw [List.take_length] at HW HPL
      have g3 := (HGS.out wr HB.out).2.2.2
      clear hlt hi
      go_wp2_with fail
      refine (writerText2_any _ _ p _ _ HW.out mb HBD.out (by have := HPL.out; omega)).mono ?_
      rintro e w6 ⟨v6, rfl, hw, hu, _⟩
      have W6 := Lib.hid hw
      have B6 := Lib.hid (HWF.out _ _ _ _ HW.out HB.out hu)
      have HL6 := Lib.hid (show (P0 ++ gb8 mg ++ (be4n mb.length ++ mb)).length ≤ 100000000 by have := HPL.out; have := HBD.out; rw [List.length_append]; simp [be4n_length]; simp at *; omega)
      clear hw hu g3
      go_wp2_with fail
      refine (writerDone_any _ _ p _ _ W6.out HL6.out).mono ?_
      rintro e w7 ⟨x7, rfl, ho7, hb7⟩
      obtain ⟨A7, c7, rfl, _⟩ := own_slice ho7
      have hst := run_string_RB (P := Try.prog) w7 25 9 5 Try.underlying25 Try.underlying5 Try.underlying9 A7 _ c7 (P0 ++ gb8 mg ++ (be4n mb.length ++ mb)) rfl (own_RC ho7).bytes
      obtain ⟨PX, hPX⟩ : ∃ PX, PX = P0 ++ gb8 mg ++ (be4n mb.length ++ mb) := ⟨_, rfl⟩
      have HB7 := Lib.hid (below_below B6.out B6.out.size hb7)
      rw [← hPX] at hst ⊢
      have HPX := Lib.hid hPX
      clear ho7 hb7 hPX
      go_wp2_with fail
      go_ret
      refine ⟨?_, below_below HB1.out HB1.out.size HB7.out⟩
      show Ending.returned (.string (strB PX)) = _
      rw [HPX.out, HP0.out]
      unfold txtOf Rm.p
      simp only [List.append_assoc]
end Go.Proofs.Ytjakhemolecbnaa
end

/-
  The walks of the law's rec and claim.
-/
section
set_option linter.unusedVariables false
set_option linter.unusedSimpArgs false
namespace Go.Proofs.Ytjakhemolecbnaa
open Go.RowKit

theorem infoRecR : (Try.prog.info? 55).map (·.size) = some 4 := by kernel_rfl
theorem infoClm : (Try.prog.info? 27).map (·.size) = some 2 := by kernel_rfl

set_option maxRecDepth 100000 in
set_option maxHeartbeats 4000000 in
theorem rec_any (m : Rm) (w : World) :
    Calls Try.prog 22 #[.agg m.cells.toArray] w fun e w' => e = .returned (.agg m.cells.toArray) ∧ Below w.heap.size w w' := by
  obtain ⟨mk, mt, mA, mc, mg, mb⟩ := m
  obtain ⟨z1, hz1⟩ : ∃ z1, z1 = strB mt := ⟨_, rfl⟩
  obtain ⟨z2, hz2⟩ : ∃ z2, z2 = strB mb := ⟨_, rfl⟩
  rw [show (⟨mk, mt, mA, mc, mg, mb⟩ : Rm).cells.toArray = #[.int .i64 mk, .string z1, .slice mA mg.length mc, .string z2] by rw [hz1, hz2]; rfl]
  clear hz1 hz2
  have hg1 : ((w.alloc (.cells #[.int .i64 mk, .string z1, .slice mA mg.length mc, .string z2] 24)).alloc (.cells recZ 55)).heap[w.heap.size]? = some (.cells #[.int .i64 mk, .string z1, .slice mA mg.length mc, .string z2] 24 (0, 0)) := (Below.heap_alloc _ _ _ (by simp)).trans (heap_alloc_new w _)
  have hg2 : ((w.alloc (.cells #[.int .i64 mk, .string z1, .slice mA mg.length mc, .string z2] 24)).alloc (.cells recZ 55)).heap[w.heap.size + 1]? = some (.cells recZ 55 (0, 0)) := by
    have h := heap_alloc_new (w.alloc (.cells #[.int .i64 mk, .string z1, .slice mA mg.length mc, .string z2] 24)) (.cells recZ 55)
    simpa using h
  have hb2 : Below w.heap.size w ((w.alloc (.cells #[.int .i64 mk, .string z1, .slice mA mg.length mc, .string z2] 24)).alloc (.cells recZ 55)) := ((Below.refl _ _).alloc (Nat.le_refl _) _).alloc (by simp) _
  obtain ⟨w2, hw2⟩ : ∃ w2, w2 = ((w.alloc (.cells #[.int .i64 mk, .string z1, .slice mA mg.length mc, .string z2] 24)).alloc (.cells recZ 55)) := ⟨_, rfl⟩
  rw [← hw2] at hg1 hg2 hb2
  obtain ⟨g, hg⟩ : ∃ g, g = w.heap.size := ⟨_, rfl⟩
  rw [← hg] at hg1 hg2
  have k0 : w2.cell? ⟨g, 0, none⟩ = some (.int .i64 mk) := (cell_of_row w2 g 0 _ _ _ hg1).trans rfl
  have k1 : w2.cell? ⟨g, 1, none⟩ = some (.string z1) := (cell_of_row w2 g 1 _ _ _ hg1).trans rfl
  have k2 : w2.cell? ⟨g, 2, none⟩ = some (.slice mA mg.length mc) := (cell_of_row w2 g 2 _ _ _ hg1).trans rfl
  have k3 : w2.cell? ⟨g, 3, none⟩ = some (.string z2) := (cell_of_row w2 g 3 _ _ _ hg1).trans rfl
  have y0 : w2.cell? ⟨g + 1, 0, none⟩ = some (.int .i64 0) := (cell_of_row w2 _ 0 _ _ _ hg2).trans rfl
  have y1 : w2.cell? ⟨g + 1, 1, none⟩ = some (.string ⟨#[]⟩) := (cell_of_row w2 _ 1 _ _ _ hg2).trans rfl
  have y2 : w2.cell? ⟨g + 1, 2, none⟩ = some (.slice none 0 0) := (cell_of_row w2 _ 2 _ _ _ hg2).trans rfl
  have y3 : w2.cell? ⟨g + 1, 3, none⟩ = some (.string ⟨#[]⟩) := (cell_of_row w2 _ 3 _ _ _ hg2).trans rfl
  have f0 := frozen_of_row w2 (g + 1) 0 _ _ hg2
  have f1 := frozen_of_row w2 (g + 1) 1 _ _ hg2
  have f2 := frozen_of_row w2 (g + 1) 2 _ _ hg2
  have f3 := frozen_of_row w2 (g + 1) 3 _ _ hg2
  have HF := Lib.hid (show ∀ W, W = (((w2.setCell ⟨g + 1, 0, none⟩ (.int .i64 mk)).setCell ⟨g + 1, 1, none⟩ (.string z1)).setCell ⟨g + 1, 2, none⟩ (.slice mA mg.length mc)).setCell ⟨g + 1, 3, none⟩ (.string z2) → W.heap[g + 1]? = some (.cells #[.int .i64 mk, .string z1, .slice mA mg.length mc, .string z2] 55 (0, 0)) ∧ Below w.heap.size w W from by
    rintro W rfl
    refine ⟨?_, (((hb2.setCell (by simp only []; omega) _).setCell (by simp only []; omega) _).setCell (by simp only []; omega) _).setCell (by simp only []; omega) _⟩
    rw [setCell_at (setCell_at (setCell_at (setCell_at hg2 _) _) _) _]
    rfl)
  have HW2 := Lib.hid hw2
  have HG := Lib.hid hg
  clear hg1 hg2 hb2 hw2 hg
  go_enter Try.func22, Try.ntmps22
  go_upto_region 1 with fail
  rw [show ((w.alloc (.cells #[.int .i64 mk, .string z1, .slice mA mg.length mc, .string z2] 24)).alloc (.cells #[.int .i64 0, .string ⟨#[]⟩, .slice none 0 0, .string ⟨#[]⟩] 55)) = w2 from HW2.out.symm, ← HG.out]
  go_wp2_with fail
  try simp only [Exit.inBlock, Exit.then]
  obtain ⟨hf1, hf2⟩ := HF.out _ rfl
  refine bodyPost_ret (v := .agg #[.int .i64 mk, .string z1, .slice mA mg.length mc, .string z2]) ?_ rfl ?_
  · exact results_cell_row rfl _ _ (g + 1) 55 _ (0, 0) _ rfl hf1 Try.underlying55 rfl infoRecR
  · exact ⟨rfl, hf2⟩

def txts (ms : List Rm) : List (List UInt8) := ms.map fun m => txtOf m.p
theorem txts_take (ms : List Rm) (i : Nat) (m : Rm) (h : ms[i]? = some m) : txts (ms.take (i + 1)) = txts (ms.take i) ++ [txtOf m.p] := by
  obtain ⟨hi, rfl⟩ := List.getElem?_eq_some_iff.1 h
  unfold txts
  rw [List.take_succ_eq_append_getElem hi, List.map_append]
  rfl
theorem txtOf_length (r : Rp) : (txtOf r).length = 10 + r.tx.length + r.groups.length + r.body.length := by
  unfold txtOf gb8
  simp only [List.length_append, be4n_length, List.length_map, List.length_singleton]
  omega
/-- Records of moderate size, as they lie in memory. -/
structure RmAt (w : World) (A : Option Addr) (ms : List Rm) : Prop where
  r : RC w A (rmc ms)
  g : ∀ m ∈ ms, RG w m.A m.groups ∧ m.tx.length ≤ 1000 ∧ m.groups.length ≤ 1000 ∧ m.body.length ≤ 1000
theorem RmAt.below {w w' : World} {A : Option Addr} {ms : List Rm} (h : RmAt w A ms) (hb : Below w.heap.size w w') : RmAt w' A ms := ⟨h.r.below hb, fun m hm => ⟨(h.g m hm).1.below hb, (h.g m hm).2⟩⟩
/-- What claim makes. -/
def encR (rs : List Rp) : List UInt8 := encOf (mkOf (rs.map txtOf))

set_option maxRecDepth 100000 in
set_option maxHeartbeats 8000000 in
theorem claim_any (gr : Int) (A : Option Addr) (n c : Nat) (ms : List Rm) (w : World) (hl : ms.length = n) (hn : n ≤ 1000) (hr : RmAt w A ms) :
    Calls Try.prog 9 #[.int .i64 gr, .slice A n c] w fun e w' => ∃ A' c', e = .returned (.agg #[.int .i64 gr, .slice A' (encR (ms.map Rm.p)).length c']) ∧ w'.ownsRow w.heap.size 5 1 (.slice A' (encR (ms.map Rm.p)).length c') (encR (ms.map Rm.p)).length (bv (encR (ms.map Rm.p))) ∧ Below w.heap.size w w' := by
  subst hl
  have HR := Lib.hid hr
  have HN := Lib.hid hn
  clear hr
  have hb1 : Below w.heap.size w (w.alloc (.cells #[.int .i64 0, .slice none 0 0] 27)) := (Below.refl _ _).alloc (Nat.le_refl _) _
  have hx1 := heap_alloc_new w (.cells #[.int .i64 0, .slice none 0 0] 27)
  have hs1 : w.heap.size < (w.alloc (.cells #[.int .i64 0, .slice none 0 0] 27)).heap.size := by simp
  obtain ⟨w1, hw1⟩ : ∃ w1, w1 = w.alloc (.cells #[.int .i64 0, .slice none 0 0] 27) := ⟨_, rfl⟩
  rw [← hw1] at hb1 hx1 hs1
  obtain ⟨bz, hbz⟩ : ∃ bz, bz = w.heap.size := ⟨_, rfl⟩
  rw [← hbz] at hx1 hs1
  have HB1 := Lib.hid hb1
  have HX1 := Lib.hid hx1
  have HS1 := Lib.hid hs1
  have HW1 := Lib.hid hw1
  have HBZ := Lib.hid hbz
  clear hb1 hx1 hs1 hw1 hbz
  go_enter Try.func9, Try.ntmps9
  go_upto_region 1 with fail
  rw [← HW1.out, ← HBZ.out]
  go_wp2_with fail
  go_loopg [5,6] ms.length (fun k s5 s6 wr => ∃ (i : Nat), i ≤ ms.length ∧ k = ms.length - i ∧ s6 = .int .i64 (i : Int) ∧ wr.ownsRow w1.heap.size 9 1 s5 i (sv (txts (ms.take i))) ∧ Below w1.heap.size w1 wr)
  case atStart => exact ⟨0, Nat.zero_le _, by omega, rfl, World.ownsRow_nil _ _ _ _, Below.refl _ _⟩
  case round =>
    obtain ⟨i, hi, hk, rfl, ho, hb⟩ := hrel
    have HK := Lib.hid hk
    have HO := Lib.hid ho
    have HB := Lib.hid hb
    have HBB := Lib.hid (show Below w.heap.size w wr from below_below HB1.out HB1.out.size hb)
    clear hk ho hb
    by_cases hlt : i < ms.length
    · obtain ⟨m, hm⟩ : ∃ m, ms[i]? = some m := ⟨_, List.getElem?_eq_getElem hlt⟩
      have HMM := Lib.hid (List.mem_of_getElem? hm)
      have HTK := Lib.hid (txts_take ms i m hm)
      obtain ⟨br, orr, rfl, hcell⟩ := RC.part HR.out.r (by rw [rmc_length]; omega)
      have hg := rmc_get ms i hlt
      have hme : ms[i] = m := by
        have := List.getElem?_eq_getElem hlt
        rw [hm] at this
        exact (Option.some.inj this).symm
      rw [hme] at hg
      have z0 := cell_below HBB.out (hcell _ _ hg.1)
      have z1 := cell_below HBB.out (hcell _ _ hg.2.1)
      have z2 := cell_below HBB.out (hcell _ _ hg.2.2.1)
      have z3 := cell_below HBB.out (hcell _ _ hg.2.2.2)
      rw [← Nat.add_assoc] at z1 z2 z3
      have hgm := HR.out.g m HMM.out
      have i0 : (0 : Int) ≤ (i : Int) := by omega
      have i1 : (i : Int) < (ms.length : Int) := by omega
      have HLT := Lib.hid hlt
      have HGM := Lib.hid hgm
      clear hm hcell hg hme hgm hlt hi
      go_wp2_with fail
      refine (rec_any m wr).mono ?_
      rintro e w3 ⟨rfl, hb3⟩
      have HB3 := Lib.hid (below_below HB.out HB.out.size hb3)
      have HO3 := Lib.hid (own_below HO.out hb3)
      clear hb3 z0 z1 z2 z3
      go_wp2_with fail
      refine (refText20_any m w3 (HGM.out.1.below (below_below HB1.out HB1.out.size HB3.out)) (by have := HGM.out.2.1; omega) (by have := HGM.out.2.2.1; omega) (by have := HGM.out.2.2.2; omega)).mono ?_
      rintro e w4 ⟨rfl, hb4⟩
      have HB4 := Lib.hid (below_below HB3.out HB3.out.size hb4)
      have HO4 := Lib.hid (own_below HO3.out hb4)
      clear hb4
      go_wp2_with (at_builtin; refine append_any rfl _ _ 49 rfl w1.heap.size 9 (.string ⟨#[]⟩) 1 16 Try.underlying49 infoS rfl (by omega) (by omega) u5 i (sv (txts (ms.take i))) rfl (HO4.out.alloc _) _ 1 _ [.string (strB (txtOf m.p))] rfl rfl (RC_newL _ [.string (strB (txtOf m.p))] 9) (by intro u hu; simp at hu; rw [hu]; rfl) ?c1 ?c2 ?_)
      case c1 => have := HN.out; have := HLT.out; omega
      case c2 => have := HB4.out.size; simp; omega
      intro v6 w6 ho6 hg6 hat6
      have HO6 := Lib.hid (show w6.ownsRow w1.heap.size 9 1 v6 (i + 1) (sv (txts (ms.take (i + 1)))) by rw [HTK.out, sv_append]; exact ho6)
      have HB6 := Lib.hid (((HB4.out.alloc HB4.out.size _).grown hg6 (by have := HB4.out.size; simp; omega) (fun k hk => (World.ownsRow.lt HO4.out k hk).1) : Below w1.heap.size w1 w6))
      clear ho6 hg6 hat6
      go_wp2_with fail
      go_roundg (ms.length - (i + 1))
      case measure => have := HK.out; have := HLT.out; omega
      case rel => exact ⟨i + 1, HLT.out, rfl, by go_num, HO6.out, HB6.out⟩
    · obtain rfl : i = ms.length := by omega
      rw [List.take_length] at HO
      obtain ⟨T, hT⟩ : ∃ T, T = txts ms := ⟨_, rfl⟩
      rw [← hT] at HO
      have hTl : T.length = ms.length := by rw [hT]; simp [txts]
      have HTE := Lib.hid (show mkOf T = mkOf ((ms.map Rm.p).map txtOf) by rw [hT]; unfold txts; rw [List.map_map]; rfl)
      have HTS := Lib.hid (show ∀ x ∈ T, x.length ≤ 4000 by
        intro x hx
        rw [hT] at hx
        unfold txts at hx
        obtain ⟨m, hm, rfl⟩ := List.mem_map.1 hx
        obtain ⟨_, h1, h2, h3⟩ := HR.out.g m hm
        rw [txtOf_length]
        show 10 + m.tx.length + m.groups.length + m.body.length ≤ 4000
        omega)
      rw [← hTl] at HO
      have HTL := Lib.hid hTl
      obtain ⟨A5, c5, rfl, _⟩ := own_slice HO.out
      have hnl : ¬ ((ms.length : Int) < (ms.length : Int)) := by omega
      clear hT hlt hi
      rw [← hTl] at hnl ⊢
      clear hTl
      have hTn : T.length ≤ 1000 := by rw [HTL.out]; exact HN.out
      go_wp2_with fail
      refine (refMake_any A5 T.length c5 T wr rfl (by omega) (fun x hx => Nat.le_trans (HTS.out x hx) (by decide)) (own_RC HO.out)).mono ?_
      rintro e w6 ⟨v6, rfl, ho6, hb6⟩
      obtain ⟨A6, c6, rfl, _⟩ := own_slice ho6
      have HO6 := Lib.hid ho6
      have HB6 := Lib.hid (below_below HB.out HB.out.size hb6)
      have HMT := Lib.hid (show ∀ x ∈ mkOf T, x.1.length ≤ 4000 by
        intro x hx
        have h : x.1 ∈ (mkOf T).map (·.1) := List.mem_map.2 ⟨x, hx, rfl⟩
        rw [mkOf_map] at h
        exact HTS.out _ h)
      clear ho6 hb6
      go_wp2_with fail
      refine (refEncode_any A6 T.length c6 (mkOf T) w6 (mkOf_length T) (by omega) (mkOf_heads T) HMT.out (own_RC HO6.out)).mono ?_
      rintro e w7 ⟨v7, rfl, ho7, hb7⟩
      obtain ⟨A7, c7, rfl, _⟩ := own_slice ho7
      have HEN := Lib.hid (show encOf (mkOf T) = encR (ms.map Rm.p) by unfold encR; rw [HTE.out])
      rw [HEN.out] at ho7 ⊢
      have HO7 := Lib.hid ho7
      have HB7 := Lib.hid (below_below HB6.out HB6.out.size hb7)
      have hxz := (HB7.out.block bz HS1.out).trans HX1.out
      have HZ := Lib.hid hxz
      have y0 : w7.cell? ⟨bz, 0, none⟩ = some (.int .i64 0) := (cell_of_row w7 bz 0 _ _ _ hxz).trans rfl
      have y1 : w7.cell? ⟨bz, 1, none⟩ = some (.slice none 0 0) := (cell_of_row w7 bz 1 _ _ _ hxz).trans rfl
      have f0 := frozen_of_row w7 bz 0 _ _ hxz
      have f1 := frozen_of_row w7 bz 1 _ _ hxz
      have HU := Lib.hid (show Upd (fun k => k = bz) w7 ((w7.setCell ⟨bz, 0, none⟩ (.int .i64 gr)).setCell ⟨bz, 1, none⟩ (.slice A7 (encR (ms.map Rm.p)).length c7)) from ((Upd.refl (fun k => k = bz) w7).setCell (p := ⟨bz, 0, none⟩) (fun _ => rfl) _).setCell (p := ⟨bz, 1, none⟩) (fun _ => rfl) _)
      obtain ⟨Ln, hLn⟩ : ∃ Ln, Ln = (encR (ms.map Rm.p)).length := ⟨_, rfl⟩
      rw [← hLn] at HU HO7 ⊢
      have HLN := Lib.hid hLn
      clear ho7 hb7 hxz hLn
      go_wp2_with fail
      try simp only [Exit.inBlock, Exit.then]
      refine bodyPost_ret (v := .agg #[.int .i64 gr, .slice A7 Ln c7]) ?_ rfl ?_
      · exact results_cell_row rfl _ _ bz 27 _ (0, 0) _ rfl (by rw [setCell_at (setCell_at HZ.out _) _]; rfl) Try.underlying27 rfl infoClm
      · obtain rfl := HLN.out
        have hs := HBZ.out
        have hs1 := HS1.out
        have hbl := below_below HB1.out HB1.out.size HB7.out
        refine ⟨A7, c7, rfl, ?_, below_upd hbl hbl.size HU.out (fun k hk => by omega)⟩
        exact own_upd (own_lower HO7.out (show w.heap.size ≤ w6.heap.size from Nat.le_trans HB1.out.size HB6.out.size)) HU.out (fun k hk e => by have := (World.ownsRow.lt HO7.out k hk).1; have := HB6.out.size; omega)

end Go.Proofs.Ytjakhemolecbnaa
end

/-
  Records' texts are read as the records, chains' bytes as the chains (plain Lean).
-/
section
set_option linter.unusedVariables false
set_option linter.unusedSimpArgs false
namespace Go.Proofs.Ytjakhemolecbnaa
open Go.RowKit

theorem raw_at {l x t : List UInt8} {a : Nat} (h : l.drop a = x ++ t) (ha : a ≤ l.length) : rawS l x.length ⟨a, 0, 0⟩ = (x, ⟨a + x.length, 0, 0⟩) ∧ l.drop (a + x.length) = t ∧ a + x.length ≤ l.length := by
  have hl : l.length - a = x.length + t.length := by have := congrArg List.length h; simpa using this
  refine ⟨?_, ?_, by omega⟩
  · unfold rawS
    rw [if_neg (by simp), if_neg (by show ¬ l.length < a + x.length; omega)]
    show ((l.drop a).take x.length, _) = _
    rw [h, List.take_left]
  · rw [← List.drop_drop, h, List.drop_left]
theorem byte_at {l t : List UInt8} {x : UInt8} {a : Nat} (h : l.drop a = x :: t) (ha : a ≤ l.length) : byteS l ⟨a, 0, 0⟩ = (x, ⟨a + 1, 0, 0⟩) ∧ l.drop (a + 1) = t ∧ a + 1 ≤ l.length := by
  obtain ⟨h1, h2, h3⟩ := raw_at (x := [x]) (t := t) h ha
  refine ⟨?_, h2, h3⟩
  have h1' : rawS l 1 ⟨a, 0, 0⟩ = ([x], ⟨a + 1, 0, 0⟩) := h1
  unfold byteS
  rw [h1']
  rfl
theorem num_be4 (n : Nat) (h : n < 4294967296) : numOf (be4n n) = n := by
  have h1 := numOf_four (be4n n) (Nat.le_refl 4)
  have h2 := four_be4 n h []
  rw [List.append_nil] at h2
  rw [h2] at h1
  exact h1
theorem four_at {l t : List UInt8} {n a : Nat} (h : l.drop a = be4n n ++ t) (hn : n < 4294967296) (ha : a ≤ l.length) : fourS l ⟨a, 0, 0⟩ = (n, ⟨a + 4, 0, 0⟩) ∧ l.drop (a + 4) = t ∧ a + 4 ≤ l.length := by
  obtain ⟨h1, h2, h3⟩ := raw_at (x := be4n n) (t := t) h ha
  refine ⟨?_, h2, h3⟩
  have h1' : rawS l 4 ⟨a, 0, 0⟩ = (be4n n, ⟨a + 4, 0, 0⟩) := h1
  unfold fourS
  rw [h1', num_be4 n hn]
theorem count_at {l t : List UInt8} {n a most : Nat} (h : l.drop a = be4n n ++ t) (hn : n ≤ most) (hm : most < 4294967296) (ha : a ≤ l.length) : countS l most ⟨a, 0, 0⟩ = (n, ⟨a + 4, 0, 0⟩) ∧ l.drop (a + 4) = t ∧ a + 4 ≤ l.length := by
  obtain ⟨h1, h2, h3⟩ := four_at h (by omega) ha
  refine ⟨?_, h2, h3⟩
  unfold countS
  rw [h1, if_neg (by show ¬ most < n; omega)]
theorem text_at {l s t : List UInt8} {a : Nat} (h : l.drop a = be4n s.length ++ (s ++ t)) (hs : s.length ≤ 4000) (ha : a ≤ l.length) : textS l 4000 ⟨a, 0, 0⟩ = (s, ⟨a + 4 + s.length, 0, 0⟩) ∧ l.drop (a + 4 + s.length) = t ∧ a + 4 + s.length ≤ l.length := by
  obtain ⟨h1, h2, h3⟩ := count_at h hs (by decide) ha
  obtain ⟨h4, h5, h6⟩ := raw_at h2 h3
  refine ⟨?_, h5, h6⟩
  unfold textS
  rw [h1]
  exact h4
theorem grp_at {l : List UInt8} {a : Nat} : ∀ {gs t : List UInt8}, l.drop a = gs ++ t → a ≤ l.length → ∀ j, j ≤ gs.length → grpS l j ⟨a, 0, 0⟩ = (gs.take j, ⟨a + j, 0, 0⟩)
  | gs, t, h, ha, 0, _ => by simp [grpS]
  | gs, t, h, ha, j + 1, hj => by
    have ih := grp_at h ha j (by omega)
    have hl : l.length - a = gs.length + t.length := by have := congrArg List.length h; simpa using this
    have hd : l.drop (a + j) = gs[j] :: (gs.drop (j + 1) ++ t) := by
      rw [← List.drop_drop, h, List.drop_append_of_le_length (by omega), List.drop_eq_getElem_cons (by omega), List.cons_append]
    obtain ⟨h1, _, _⟩ := byte_at hd (by omega)
    unfold grpS
    rw [ih, h1, List.take_succ_eq_append_getElem (by omega)]
    rfl
theorem end_at (l : List UInt8) : endS l ⟨l.length, 0, 0⟩ = (0, 0) := by
  unfold endS
  rw [if_neg (by simp), if_neg (by show ¬ l.length < l.length; omega)]
/-- A record of its form, and of moderate size. -/
structure rOK (r : Rp) : Prop where
  pre : finePre r.kind r.tx = true
  k : 0 ≤ r.kind ∧ r.kind ≤ 255
  fine : fineOf true (gb8 r.groups) = true
  back : (gb8 r.groups).map un8 = r.groups
  tx : r.tx.length ≤ 1000
  gl : r.groups.length ≤ 255
  bd : r.body.length ≤ 1000
theorem read_parts (r : Rp) (hk : 0 ≤ r.kind ∧ r.kind ≤ 255) (htx : r.tx.length ≤ 4000) (hgl : r.groups.length ≤ 255) (hbd : r.body.length ≤ 4000) (back : (gb8 r.groups).map un8 = r.groups) :
    readS (txtOf r) = if fineOf (finePre r.kind r.tx) (gb8 r.groups) = true then some r else none := by
  obtain ⟨k, tx, gs, bd⟩ := r
  dsimp only at *
  obtain ⟨l, hl⟩ : ∃ l, l = txtOf ⟨k, tx, gs, bd⟩ := ⟨_, rfl⟩
  rw [← hl]
  have hlen : l.length = 10 + tx.length + gs.length + bd.length := by rw [hl, txtOf_length]
  have d0 : l.drop 0 = b8 k :: (be4n tx.length ++ (tx ++ (b8 (gs.length : Int) :: (gb8 gs ++ (be4n bd.length ++ (bd ++ [])))))) := by
    rw [hl]
    simp [txtOf]
  obtain ⟨e1, d1, l1⟩ := byte_at d0 (by omega)
  obtain ⟨e2, d2, l2⟩ := text_at d1 htx l1
  obtain ⟨e3, d3, l3⟩ := byte_at d2 l2
  have hgl2 : (gb8 gs).length = gs.length := by simp [gb8]
  have e4 := grp_at d3 l3 gs.length (by omega)
  have d4 := (raw_at d3 l3).2
  rw [hgl2] at d4
  rw [show (gb8 gs).take gs.length = gb8 gs by rw [← hgl2, List.take_length]] at e4
  obtain ⟨e5, d5, l5⟩ := text_at d4.1 hbd d4.2
  have hn : (b8 (gs.length : Int)).toNat = gs.length := by
    have := un8_b8 (gs.length : Int)
    have h2 : ((b8 (gs.length : Int)).toNat : Int) = (gs.length : Int) % 256 := this
    omega
  have hend : 0 + 1 + 4 + tx.length + 1 + gs.length + 4 + bd.length = l.length := by omega
  have hkk : un8 (b8 k) = k := by rw [un8_b8]; omega
  unfold readS
  simp only [e1, e2, e3, hn, e4, e5]
  rw [hend, end_at, hkk]
  simp [back]
theorem read_txt {r : Rp} (h : rOK r) : readS (txtOf r) = some r := by
  rw [read_parts r h.k (Nat.le_trans h.tx (by decide)) h.gl (Nat.le_trans h.bd (by decide)) h.back, h.pre, if_pos h.fine]

theorem good_mk (T : List (List UInt8)) (j : Nat) (hj : j < (mkOf T).length) : goodAt (mkOf T) j = true := by
  have hj' : j < T.length := by rw [mkOf_length] at hj; exact hj
  unfold goodAt
  rw [decide_eq_true_eq, List.map_take, mkOf_map]
  rw [List.getD_eq_getElem?_getD, List.getElem?_eq_getElem hj, Option.getD_some, mkOf_get T j hj hj']
theorem run_enc (T : List (List UInt8)) (hs : ∀ x ∈ T, x.length ≤ 4000) : ∀ (k i : Nat) (P : List Nat), i + k = (mkOf T).length → runS (encOf (mkOf T)) k ⟨posOf (mkOf T) i, 0, 0⟩ ((mkOf T).take i) P = .inr (mkOf T)
  | 0, i, P, h => by
    obtain rfl : i = (mkOf T).length := by omega
    rw [List.take_length, posOf_all]
    unfold runS concS
    rw [end_at, if_neg (by simp), checkOf_good _ (fun j hj => good_mk T j hj), if_neg (Nat.lt_irrefl _)]
  | k + 1, i, P, h => by
    have hi : i < (mkOf T).length := by omega
    obtain ⟨t, ht⟩ := enc_at (mkOf T) i hi
    have hh := mkOf_heads T _ (List.getElem_mem hi)
    have htx : ((mkOf T)[i]).1.length ≤ 4000 := by
      have h : ((mkOf T)[i]).1 ∈ (mkOf T).map (·.1) := List.mem_map.2 ⟨_, List.getElem_mem hi, rfl⟩
      rw [mkOf_map] at h
      exact hs _ h
    have hpos := posOf_succ (mkOf T) i hi hh
    have hle : posOf (mkOf T) i ≤ (encOf (mkOf T)).length := by
      by_cases h2 : posOf (mkOf T) i ≤ (encOf (mkOf T)).length
      · exact h2
      · rw [List.drop_eq_nil_of_le (by omega)] at ht
        have := congrArg List.length ht
        simp only [List.length_append, be4n_length, List.length_nil] at this
        omega
    obtain ⟨e1, d1, l1⟩ := text_at ht htx hle
    obtain ⟨e2, d2, l2⟩ := raw_at d1 l1
    rw [hh] at e2
    unfold runS
    rw [if_neg (by simp)]
    have el : linkS (encOf (mkOf T)) ⟨posOf (mkOf T) i, 0, 0⟩ = ((mkOf T)[i], ⟨posOf (mkOf T) (i + 1), 0, 0⟩) := by
      unfold linkS
      rw [e1]
      dsimp only
      rw [e2, hpos]
      unfold pad32
      dsimp only
      rw [if_pos hh]
    rw [el]
    dsimp only
    rw [← List.take_succ_eq_append_getElem hi]
    exact run_enc T hs k (i + 1) _ (by omega)
theorem dec_enc (T : List (List UInt8)) (hT : T.length ≤ 4000) (hs : ∀ x ∈ T, x.length ≤ 4000) : decS (encOf (mkOf T)) = .inr (mkOf T) := by
  have hl := mkOf_length T
  have d0 : (encOf (mkOf T)).drop 0 = be4n (mkOf T).length ++ encL (mkOf T) := rfl
  obtain ⟨e1, _, _⟩ := count_at (most := 4096) d0 (by omega) (by decide) (Nat.zero_le _)
  unfold decS
  rw [e1]
  have := run_enc T hs (mkOf T).length 0 [] (by omega)
  rw [posOf_zero, List.take_zero] at this
  exact this
theorem recs_all : ∀ (rs : List Rp) (M : Lks), M.map (·.1) = rs.map txtOf → (∀ r ∈ rs, rOK r) → recsOf M = (rs, true)
  | [], [], _, _ => by rw [recsOf]
  | [], _ :: _, h, _ => by simp at h
  | _ :: _, [], h, _ => by simp at h
  | r :: rs, x :: M, h, ho => by
    simp only [List.map_cons, List.cons.injEq] at h
    rw [recsOf_cons, h.1, read_txt (ho r (by simp)), recs_all rs M h.2 (fun q hq => ho q (by simp [hq])), recStep]
theorem encR_parts (rs : List Rp) (hl : rs.length ≤ 1000) (ho : ∀ r ∈ rs, rOK r) (g : Int) : claimP g (encR rs) = ⟨g, mkOf (rs.map txtOf), true, rs, true, 0⟩ := by
  have hd : decS (encR rs) = .inr (mkOf (rs.map txtOf)) := dec_enc (rs.map txtOf) (by rw [List.length_map]; omega) (by
    intro x hx
    obtain ⟨r, hr, rfl⟩ := List.mem_map.1 hx
    rw [txtOf_length]
    have := (ho r hr).tx
    have := (ho r hr).gl
    have := (ho r hr).bd
    omega)
  unfold claimP
  rw [hd]
  dsimp only
  rw [recs_all rs _ (mkOf_map _) ho]
  rfl
theorem encL_len : ∀ (M : Lks), (∀ x ∈ M, x.1.length ≤ 4000 ∧ x.2.length = 32) → (encL M).length ≤ M.length * 4036
  | [], _ => by simp [encL]
  | x :: M, h => by
    have ih := encL_len M (fun y hy => h y (by simp [hy]))
    have hx := h x (by simp)
    have e : encL (x :: M) = (be4n x.1.length ++ x.1 ++ x.2) ++ encL M := rfl
    rw [e, List.length_append, List.length_append, List.length_append, be4n_length, List.length_cons]
    omega
theorem encR_len (rs : List Rp) (hl : rs.length ≤ 1000) (ho : ∀ r ∈ rs, rOK r) : (encR rs).length ≤ 4100000 := by
  have h := encL_len (mkOf (rs.map txtOf)) (fun x hx => ⟨by
    have h2 : x.1 ∈ (mkOf (rs.map txtOf)).map (·.1) := List.mem_map.2 ⟨x, hx, rfl⟩
    rw [mkOf_map] at h2
    obtain ⟨r, hr, e⟩ := List.mem_map.1 h2
    rw [← e, txtOf_length]
    have := (ho r hr).tx
    have := (ho r hr).gl
    have := (ho r hr).bd
    omega, mkOf_heads _ x hx⟩)
  rw [mkOf_length, List.length_map] at h
  unfold encR encOf
  rw [List.length_append, be4n_length]
  omega
end Go.Proofs.Ytjakhemolecbnaa
end

/-
  The walk of the law's known.
-/
section
set_option linter.unusedVariables false
set_option linter.unusedSimpArgs false
namespace Go.Proofs.Ytjakhemolecbnaa
open Go.RowKit

def pP : Rp := ⟨2, [116], [0, 1], []⟩
def pC : Rp := ⟨3, [116], [0, 1], []⟩
def pA : Rp := ⟨4, [116], [0, 1], []⟩
theorem rOK_P : rOK pP := ⟨by decide, by decide, by decide, by decide, by decide, by decide, by decide⟩
theorem rOK_C : rOK pC := ⟨by decide, by decide, by decide, by decide, by decide, by decide, by decide⟩
theorem rOK_A : rOK pA := ⟨by decide, by decide, by decide, by decide, by decide, by decide, by decide⟩
theorem known_v (M0 M1 : Lks) : verP [⟨0, M0, true, [pP, pC], true, 0⟩, ⟨1, M1, true, [pA], true, 0⟩] = (5, 0, 1) := by rfl
theorem known_g (M0 : Lks) : verP [⟨0, M0, true, [pP, pC], true, 0⟩] = (0, 0, 0) := by rfl
theorem RC_take {w : World} {A : Option Addr} {l : List Value} (h : RC w A l) (k : Nat) : RC w A (l.take k) := by
  intro h0
  rw [List.length_take] at h0
  obtain ⟨ad, e, hh⟩ := h (by omega)
  exact ⟨ad, e, fun j u hj => hh j u (by rw [List.getElem?_take] at hj; split at hj; exact hj; cases hj)⟩
theorem own_nil {w : World} {base n m c size : Nat} {e : TypeId} {A : Option Addr} {xs : List Value} (h : w.ownsRow base e size (.slice A n c) m xs) : A = none → c = 0 := by
  intro e'
  subst e'
  rcases h.2 with ⟨hv, _⟩ | ⟨g, cap, cur, hv, _⟩
  · cases hv; rfl
  · cases hv
theorem ClsAt_nil (w : World) : ClsAt w none [] := ⟨fun h => absurd h (by simp [clc]), fun x hx => by cases hx⟩

set_option maxRecDepth 100000 in
set_option maxHeartbeats 8000000 in
theorem known_any (w : World) :
    Calls Try.prog 16 #[] w fun e w' => e = .returned (.bool true) ∧ Below w.heap.size w w' := by
  go_enter Try.func16, Try.ntmps16
  go_wp2_with fail
  refine (verify_p none 0 0 [] w rfl (by decide) (ClsAt_nil w)).mono ?_
  rintro e w1 ⟨rfl, hb1⟩
  rw [show verP ([].map Cl.p) = (0, 0, 0) from rfl]
  have HB1 := Lib.hid hb1
  clear hb1
  dsimp only
  -- the first claim
  obtain ⟨wA, hwA⟩ : ∃ wA, wA = w1.alloc (.cells #[.int .i64 0, .int .i64 0, .int .i64 0] 33) := ⟨_, rfl⟩
  obtain ⟨wB, hwB⟩ : ∃ wB, wB = wA.alloc (.cells #[.int .i64 0, .int .i64 1] 3) := ⟨_, rfl⟩
  obtain ⟨wC, hwC⟩ : ∃ wC, wC = wB.alloc (.cells #[.int .i64 0, .int .i64 1] 3) := ⟨_, rfl⟩
  obtain ⟨n1, hn1⟩ : ∃ n1, n1 = w1.heap.size := ⟨_, rfl⟩
  have sA : wA.heap.size = n1 + 1 := by rw [hwA, hn1]; simp
  have sB : wB.heap.size = n1 + 1 + 1 := by rw [hwB]; simp [sA]
  have sC : wC.heap.size = n1 + 1 + 1 + 1 := by rw [hwC]; simp [sB]
  obtain ⟨wD, hwD⟩ : ∃ wD, wD = wC.alloc (.cells #[.int .i64 2, .string ⟨#[116]⟩, .slice (some ⟨n1 + 1, 0, none⟩) 2 2, .string ⟨#[]⟩, .int .i64 3, .string ⟨#[116]⟩, .slice (some ⟨n1 + 1 + 1, 0, none⟩) 2 2, .string ⟨#[]⟩] 24) := ⟨_, rfl⟩
  have bAB : Below wA.heap.size wA wB := by rw [hwB]; exact (Below.refl _ _).alloc (Nat.le_refl _) _
  have bBC : Below wB.heap.size wB wC := by rw [hwC]; exact (Below.refl _ _).alloc (Nat.le_refl _) _
  have bCD : Below wC.heap.size wC wD := by rw [hwD]; exact (Below.refl _ _).alloc (Nat.le_refl _) _
  have b1A : Below w1.heap.size w1 wA := by rw [hwA]; exact (Below.refl _ _).alloc (Nat.le_refl _) _
  have BAD := Lib.hid (below_below (below_below bAB bAB.size bBC) (below_below bAB bAB.size bBC).size bCD)
  have B1D := Lib.hid (below_below b1A b1A.size BAD.out)
  have gB : RG wB (some ⟨n1 + 1, 0, none⟩) [0, 1] := by rw [← sA, hwB]; exact RC_newL wA [.int .i64 0, .int .i64 1] _
  have gC : RG wC (some ⟨n1 + 1 + 1, 0, none⟩) [0, 1] := by rw [← sB, hwC]; exact RC_newL wB [.int .i64 0, .int .i64 1] _
  have RM := Lib.hid (show RmAt wD (some ⟨n1 + 1 + 1 + 1, 0, none⟩) [⟨2, [116], some ⟨n1 + 1, 0, none⟩, 2, [0, 1], []⟩, ⟨3, [116], some ⟨n1 + 1 + 1, 0, none⟩, 2, [0, 1], []⟩] from by
    refine ⟨?_, fun m hm => ?_⟩
    · rw [← sC, hwD]
      exact RC_newL wC [.int .i64 2, .string ⟨#[116]⟩, .slice (some ⟨n1 + 1, 0, none⟩) 2 2, .string ⟨#[]⟩, .int .i64 3, .string ⟨#[116]⟩, .slice (some ⟨n1 + 1 + 1, 0, none⟩) 2 2, .string ⟨#[]⟩] _
    · simp only [List.mem_cons, List.not_mem_nil, or_false] at hm
      rcases hm with rfl | rfl
      · exact ⟨(gB.below bBC).below bCD, by simp, by simp, by simp⟩
      · exact ⟨gC.below bCD, by simp, by simp, by simp⟩)
  have kf0 : ∀ j, j < 3 → wD.cell? ⟨n1, j, none⟩ = some (.int .i64 0) := fun j hj => by
    have h : wA.heap[n1]? = some (.cells #[.int .i64 0, .int .i64 0, .int .i64 0] 33 (0, 0)) := by rw [hwA, hn1]; exact heap_alloc_new w1 _
    have h2 : wA.cell? ⟨n1, j, none⟩ = some (.int .i64 0) := by
      rw [cell_of_row wA n1 j _ _ _ h]
      match j, hj with
      | 0, _ => rfl
      | 1, _ => rfl
      | 2, _ => rfl
    exact cell_below BAD.out h2
  have HWD := Lib.hid (show (((w1.alloc (.cells #[.int .i64 0, .int .i64 0, .int .i64 0] 33)).alloc (.cells #[.int .i64 0, .int .i64 1] 3)).alloc (.cells #[.int .i64 0, .int .i64 1] 3)).alloc (.cells #[.int .i64 2, .string ⟨#[116]⟩, .slice (some ⟨n1 + 1, 0, none⟩) 2 2, .string ⟨#[]⟩, .int .i64 3, .string ⟨#[116]⟩, .slice (some ⟨n1 + 1 + 1, 0, none⟩) 2 2, .string ⟨#[]⟩] 24) = wD by rw [hwD, hwC, hwB, hwA])
  have HN1 := Lib.hid hn1
  clear hwA hwB hwC hwD sA sB sC bAB bBC bCD b1A gB gC hn1
  go_wp2_with fail
  rw [← HN1.out, HWD.out]
  refine (claim_any 0 _ 2 2 _ wD rfl (by decide) RM.out).mono ?_
  rintro e w3 ⟨A3, c3, rfl, ho3, hb3⟩
  rw [show ([⟨2, [116], some ⟨n1 + 1, 0, none⟩, 2, [0, 1], []⟩, ⟨3, [116], some ⟨n1 + 1 + 1, 0, none⟩, 2, [0, 1], []⟩] : List Rm).map Rm.p = [pP, pC] from rfl] at ho3 ⊢
  have HE1 := Lib.hid (encR_parts [pP, pC] (by decide) (by intro r hr; simp only [List.mem_cons, List.not_mem_nil, or_false] at hr; rcases hr with rfl | rfl; exact rOK_P; exact rOK_C) 0)
  have HL1 := Lib.hid (encR_len [pP, pC] (by decide) (by intro r hr; simp only [List.mem_cons, List.not_mem_nil, or_false] at hr; rcases hr with rfl | rfl; exact rOK_P; exact rOK_C))
  obtain ⟨E1, hE1⟩ : ∃ E1, E1 = encR [pP, pC] := ⟨_, rfl⟩
  rw [← hE1] at ho3 HE1 HL1 ⊢
  have HO3 := Lib.hid ho3
  have B3 := Lib.hid hb3
  have F3 := Lib.hid (fun j hj => cell_below hb3 (kf0 j hj))
  clear ho3 hb3 kf0 hE1
  -- the second claim
  obtain ⟨wF, hwF⟩ : ∃ wF, wF = w3.alloc (.cells #[.int .i64 0, .int .i64 1] 3) := ⟨_, rfl⟩
  obtain ⟨n3, hn3⟩ : ∃ n3, n3 = w3.heap.size := ⟨_, rfl⟩
  have sF : wF.heap.size = n3 + 1 := by rw [hwF, hn3]; simp
  obtain ⟨wG, hwG⟩ : ∃ wG, wG = wF.alloc (.cells #[.int .i64 4, .string ⟨#[116]⟩, .slice (some ⟨n3, 0, none⟩) 2 2, .string ⟨#[]⟩] 24) := ⟨_, rfl⟩
  have b3F : Below w3.heap.size w3 wF := by rw [hwF]; exact (Below.refl _ _).alloc (Nat.le_refl _) _
  have bFG : Below wF.heap.size wF wG := by rw [hwG]; exact (Below.refl _ _).alloc (Nat.le_refl _) _
  have B3G := Lib.hid (below_below b3F b3F.size bFG)
  have RM2 := Lib.hid (show RmAt wG (some ⟨n3 + 1, 0, none⟩) [⟨4, [116], some ⟨n3, 0, none⟩, 2, [0, 1], []⟩] from by
    refine ⟨?_, fun m hm => ?_⟩
    · rw [← sF, hwG]
      exact RC_newL wF [.int .i64 4, .string ⟨#[116]⟩, .slice (some ⟨n3, 0, none⟩) 2 2, .string ⟨#[]⟩] _
    · rw [List.mem_singleton.1 hm]
      refine ⟨RG.below ?_ bFG, by simp, by simp, by simp⟩
      rw [hn3, hwF]
      exact RC_newL w3 [.int .i64 0, .int .i64 1] _)
  have HWG := Lib.hid (show ((w3.alloc (.cells #[.int .i64 0, .int .i64 1] 3)).alloc (.cells #[.int .i64 4, .string ⟨#[116]⟩, .slice (some ⟨n3, 0, none⟩) 2 2, .string ⟨#[]⟩] 24)) = wG by rw [hwG, hwF])
  have HN3 := Lib.hid hn3
  clear hwF hwG sF b3F bFG hn3
  go_wp2_with fail
  rw [← HN3.out, HWG.out]
  refine (claim_any 1 _ 1 1 _ wG rfl (by decide) RM2.out).mono ?_
  rintro e w4 ⟨A4, c4, rfl, ho4, hb4⟩
  rw [show ([⟨4, [116], some ⟨n3, 0, none⟩, 2, [0, 1], []⟩] : List Rm).map Rm.p = [pA] from rfl] at ho4 ⊢
  have HE2 := Lib.hid (encR_parts [pA] (by decide) (by intro r hr; rw [List.mem_singleton.1 hr]; exact rOK_A) 1)
  have HL2 := Lib.hid (encR_len [pA] (by decide) (by intro r hr; rw [List.mem_singleton.1 hr]; exact rOK_A))
  obtain ⟨E2, hE2⟩ : ∃ E2, E2 = encR [pA] := ⟨_, rfl⟩
  rw [← hE2] at ho4 HE2 HL2 ⊢
  have HO4 := Lib.hid ho4
  have HO34 := Lib.hid (own_below (own_below HO3.out B3G.out) hb4)
  have B34 := Lib.hid (below_below B3G.out B3G.out.size hb4)
  clear ho4 hb4 hE2
  -- Verify of both
  obtain ⟨w5, hw5⟩ : ∃ w5, w5 = w4.alloc (.cells #[.int .i64 0, .slice A3 E1.length c3, .int .i64 1, .slice A4 E2.length c4] 27) := ⟨_, rfl⟩
  have b45 : Below w4.heap.size w4 w5 := by rw [hw5]; exact (Below.refl _ _).alloc (Nat.le_refl _) _
  have CL := Lib.hid (show ClsAt w5 (some ⟨w4.heap.size, 0, none⟩) [⟨0, A3, c3, E1⟩, ⟨1, A4, c4, E2⟩] from by
    refine ⟨by rw [hw5]; exact RC_newL w4 [.int .i64 0, .slice A3 E1.length c3, .int .i64 1, .slice A4 E2.length c4] _, fun x hx => ?_⟩
    simp only [List.mem_cons, List.not_mem_nil, or_false] at hx
    rcases hx with rfl | rfl
    · exact ⟨(own_RC (own_below HO34.out b45)).bytes, own_nil HO34.out, Nat.le_trans HL1.out (by decide)⟩
    · exact ⟨(own_RC (own_below HO4.out b45)).bytes, own_nil HO4.out, Nat.le_trans HL2.out (by decide)⟩)
  have HW5 := Lib.hid hw5
  have B45 := Lib.hid b45
  obtain ⟨n4, hn4⟩ : ∃ n4, n4 = w4.heap.size := ⟨_, rfl⟩
  rw [← hn4] at CL
  have HN4 := Lib.hid hn4
  clear hw5 b45 hn4
  go_wp2_with fail
  rw [← HN4.out, show w4.alloc (.cells #[.int .i64 0, .slice A3 E1.length c3, .int .i64 1, .slice A4 E2.length c4] 27) = w5 from HW5.out.symm]
  refine (verify_p _ 2 2 _ w5 rfl (by decide) CL.out).mono ?_
  rw [show ([⟨0, A3, c3, E1⟩, ⟨1, A4, c4, E2⟩] : List Cl).map Cl.p = [claimP 0 E1, claimP 1 E2] from rfl, HE1.out, HE2.out, known_v]
  rintro e w6 ⟨rfl, hb6⟩
  dsimp only
  have B6 := Lib.hid hb6
  clear hb6
  -- Verify of the first
  have b67 : Below w6.heap.size w6 (w6.alloc (.cells #[.int .i64 5, .int .i64 0, .int .i64 1] 33)) := (Below.refl _ _).alloc (Nat.le_refl _) _
  have hx7 := heap_alloc_new w6 (.cells #[.int .i64 5, .int .i64 0, .int .i64 1] 33)
  obtain ⟨w7, hw7⟩ : ∃ w7, w7 = w6.alloc (.cells #[.int .i64 5, .int .i64 0, .int .i64 1] 33) := ⟨_, rfl⟩
  rw [← hw7] at b67 hx7
  obtain ⟨n6, hn6⟩ : ∃ n6, n6 = w6.heap.size := ⟨_, rfl⟩
  rw [← hn6] at hx7
  have B57 := Lib.hid (below_below B6.out B6.out.size b67)
  have CL7 := Lib.hid (CL.out.below B57.out)
  have CL1 := Lib.hid (show ClsAt w7 (some ⟨n4, 0, none⟩) [⟨0, A3, c3, E1⟩] from ⟨RC_take CL7.out.r 2, fun x hx => CL7.out.b x (by rw [List.mem_singleton.1 hx]; simp)⟩)
  have HW7 := Lib.hid hw7
  have HN6 := Lib.hid hn6
  have HX7 := Lib.hid hx7
  have K7 := Lib.hid (show ∀ W, Below w7.heap.size w7 W → W.cell? ⟨n6, 0, none⟩ = some (.int .i64 5) ∧ W.cell? ⟨n6, 1, none⟩ = some (.int .i64 0) ∧ W.cell? ⟨n6, 2, none⟩ = some (.int .i64 1) from fun W hW =>
    ⟨cell_below hW ((cell_of_row w7 n6 0 _ _ _ hx7).trans rfl), cell_below hW ((cell_of_row w7 n6 1 _ _ _ hx7).trans rfl), cell_below hW ((cell_of_row w7 n6 2 _ _ _ hx7).trans rfl)⟩)
  clear b67 hx7 hw7 hn6
  go_upto_region 4 with fail
  rw [← HN6.out, ← HW7.out]
  go_wp2_with fail
  refine (verify_p _ 1 2 _ w7 rfl (by decide) CL1.out).mono ?_
  rw [show ([⟨0, A3, c3, E1⟩] : List Cl).map Cl.p = [claimP 0 E1] from rfl, HE1.out, known_g]
  rintro e w8 ⟨rfl, hb8⟩
  dsimp only
  have b89 : Below w8.heap.size w8 (w8.alloc (.cells #[.int .i64 0, .int .i64 0, .int .i64 0] 33)) := (Below.refl _ _).alloc (Nat.le_refl _) _
  have hx9 := heap_alloc_new w8 (.cells #[.int .i64 0, .int .i64 0, .int .i64 0] 33)
  obtain ⟨w9, hw9⟩ : ∃ w9, w9 = w8.alloc (.cells #[.int .i64 0, .int .i64 0, .int .i64 0] 33) := ⟨_, rfl⟩
  rw [← hw9] at b89 hx9
  obtain ⟨n8, hn8⟩ : ∃ n8, n8 = w8.heap.size := ⟨_, rfl⟩
  rw [← hn8] at hx9
  have B79 := Lib.hid (below_below hb8 hb8.size b89)
  have z0 : w9.cell? ⟨n8, 0, none⟩ = some (.int .i64 0) := (cell_of_row w9 n8 0 _ _ _ hx9).trans rfl
  have z1 : w9.cell? ⟨n8, 1, none⟩ = some (.int .i64 0) := (cell_of_row w9 n8 1 _ _ _ hx9).trans rfl
  have z2 : w9.cell? ⟨n8, 2, none⟩ = some (.int .i64 0) := (cell_of_row w9 n8 2 _ _ _ hx9).trans rfl
  obtain ⟨k0, k1, k2⟩ := K7.out w9 B79.out
  have HW9 := Lib.hid hw9
  have HN8 := Lib.hid hn8
  clear hb8 b89 hx9 hw9 hn8
  go_upto_region 5 with fail
  rw [← HN8.out, ← HW9.out]
  go_wp2_with fail
  go_ret
  refine ⟨rfl, ?_⟩
  have h1 := below_below HB1.out HB1.out.size B1D.out
  have h2 := below_below h1 h1.size B3.out
  have h3 := below_below h2 h2.size B34.out
  have h4 := below_below h3 h3.size B45.out
  have h5 := below_below h4 h4.size B57.out
  exact below_below h5 h5.size B79.out
end Go.Proofs.Ytjakhemolecbnaa
end

/-
  The walk of conclavebook.Within: a number brought into lo .. hi.
-/
section
set_option linter.unusedVariables false
set_option linter.unusedSimpArgs false
namespace Go.Proofs.Ytjakhemolecbnaa
open Go.RowKit

/-- What Within gives. -/
def withinOf (n lo hi : Int) : Int := lo + n % (hi - lo + 1)
theorem withinOf_range (n lo hi : Int) (h : lo ≤ hi) : lo ≤ withinOf n lo hi ∧ withinOf n lo hi ≤ hi := by
  unfold withinOf
  have h1 := Int.emod_nonneg n (show hi - lo + 1 ≠ 0 by omega)
  have h2 := Int.emod_lt_of_pos n (show 0 < hi - lo + 1 by omega)
  omega
theorem tmod_neg_fix (n m : Int) (hm : 0 < m) (h : n.tmod m < 0) : n.tmod m + m = n % m := by
  have h1 := Int.emod_nonneg n (show m ≠ 0 by omega)
  have h2 := Int.emod_lt_of_pos n hm
  have e1 := Int.emod_add_mul_ediv n m
  have e2 := Int.tmod_add_mul_tdiv n m
  have h3 : -m < n.tmod m := by
    have := Int.lt_tmod_of_pos n hm
    exact this
  have e3 : n % m - n.tmod m = m * (n.tdiv m - n / m) := by rw [Int.mul_sub]; omega
  have e4 : n.tdiv m - n / m = 1 := by
    generalize n.tdiv m - n / m = q at e3
    by_cases hq : q ≤ 0
    · have : m * q ≤ 0 := Int.mul_nonpos_of_nonneg_of_nonpos (by omega) hq
      omega
    · by_cases hq2 : 2 ≤ q
      · have : m * 2 ≤ m * q := Int.mul_le_mul_of_nonneg_left hq2 (by omega)
        omega
      · omega
  rw [e4] at e3
  omega
theorem tmod_pos_fix (n m : Int) (hm : 0 < m) (h : ¬ n.tmod m < 0) : n.tmod m = n % m := by
  have e := Int.tmod_eq_emod (a := n) (b := m)
  have h1 := Int.emod_lt_of_pos n hm
  have h2 : ((m.natAbs : Nat) : Int) = m := Int.natAbs_of_nonneg (by omega)
  split at e
  · omega
  · omega
theorem tmod_range (n m : Int) (hm : 0 < m) : -m < n.tmod m ∧ n.tmod m < m := by
  exact ⟨Int.lt_tmod_of_pos n hm, Int.tmod_lt_of_pos n hm⟩

set_option maxHeartbeats 1000000 in
theorem within_any (n lo hi : Int) (w : World) (h1 : lo ≤ hi) (h0 : -4611686018427387904 ≤ lo) (h2 : hi ≤ 4611686018427387000) (hd : hi - lo ≤ 4611686018427387000) :
    Calls Try.prog 18 #[.int .i64 n, .int .i64 lo, .int .i64 hi] w fun e w' => e = .returned (.int .i64 (withinOf n lo hi)) ∧ w = w' := by
  have hr := tmod_range n (hi - lo + 1) (by omega)
  have hp : (0 : Int) < hi - lo + 1 := by omega
  by_cases h : n.tmod (hi - lo + 1) < 0
  · have H := Lib.hid (tmod_neg_fix n (hi - lo + 1) (by omega) h)
    go_enter Try.func18, Try.ntmps18
    go_wp2
    go_ret
    exact ⟨ret_int (by unfold withinOf; rw [← H.out]; omega), rfl⟩
  · have H := Lib.hid (tmod_pos_fix n (hi - lo + 1) (by omega) h)
    go_enter Try.func18, Try.ntmps18
    go_wp2
    go_ret
    exact ⟨ret_int (by unfold withinOf; rw [← H.out]), rfl⟩

end Go.Proofs.Ytjakhemolecbnaa
end

/-
  The walk of the law's tame.
-/
section
set_option linter.unusedVariables false
set_option linter.unusedSimpArgs false
namespace Go.Proofs.Ytjakhemolecbnaa
open Go.RowKit

def grpT (j : Int) : List Int := if j = 0 then [0, 1] else if j = 1 then [0] else [0, 1, 2]
/-- A record of few transactions. -/
def tameS (k lt lb : Int) : Rp := ⟨1 + withinOf k 0 3, if 1 + withinOf k 0 3 = 1 then [] else if withinOf lt 0 1 = 0 then [116] else [117], grpT (withinOf lb 0 2), []⟩

theorem heap_next {w W : World} {n : Nat} (h : W.heap.size = w.heap.size + n) (o : Obj) : (W.alloc o).heap[w.heap.size + n]? = some o ∧ (W.alloc o).heap.size = w.heap.size + (n + 1) := by
  constructor
  · rw [← h]
    exact heap_alloc_new W o
  · show (W.heap.push o).size = _
    simp [h]
    omega
theorem chain7 (w : World) (o1 o2 o3 o4 o5 o6 o7 : Obj) (W : World) (hW : W = (((((((w.alloc o1).alloc o2).alloc o3).alloc o4).alloc o5).alloc o6).alloc o7)) :
    W.heap[w.heap.size + 1]? = some o2 ∧ W.heap[w.heap.size + 3]? = some o4 ∧ W.heap[w.heap.size + 4]? = some o5 ∧ W.heap[w.heap.size + 5]? = some o6 ∧ W.heap.size = w.heap.size + 7 ∧ Below w.heap.size w W := by
  have h1 := heap_next (w := w) (W := w) (n := 0) rfl o1
  have h2 := heap_next h1.2 o2
  have h3 := heap_next h2.2 o3
  have h4 := heap_next h3.2 o4
  have h5 := heap_next h4.2 o5
  have h6 := heap_next h5.2 o6
  have h7 := heap_next h6.2 o7
  have b1 : Below w.heap.size w (w.alloc o1) := (Below.refl _ _).alloc (Nat.le_refl _) _
  have b2 := b1.alloc b1.size o2
  have b3 := b2.alloc b2.size o3
  have b4 := b3.alloc b3.size o4
  have b5 := b4.alloc b4.size o5
  have b6 := b5.alloc b5.size o6
  have b7 := b6.alloc b6.size o7
  subst hW
  have k : ∀ {V : World} {j : Nat} {x : Obj} (o : Obj), V.heap[j]? = some x → (V.alloc o).heap[j]? = some x := fun o h => (Below.heap_alloc _ _ _ (Array.getElem?_eq_some_iff.1 h).1).trans h
  exact ⟨k _ (k _ (k _ (k _ (k _ h2.1)))), k _ (k _ (k _ h4.1)), k _ (k _ h5.1), k _ h6.1, h7.2, b7⟩
theorem RG_row {W : World} {g : Nat} (zs : List Int) (e : TypeId) (h : W.heap[g]? = some (.cells (zs.map (Value.int .i64)).toArray e (0, 0))) : RG W (some ⟨g, 0, none⟩) zs := by
  intro h0
  refine ⟨_, rfl, fun j u hj => ?_⟩
  rw [add_off, Nat.zero_add, cell_of_row W g j _ _ _ h, List.getElem?_toArray]
  exact hj

set_option maxRecDepth 100000 in
set_option maxHeartbeats 8000000 in
theorem tame_any (k : Int) (tx bd : ByteArray) (A : Option Addr) (n c : Nat) (w : World) (ht : tx.size ≤ 9000000000000000000) (hb : bd.size ≤ 9000000000000000000) :
    Calls Try.prog 17 #[.agg #[.int .i64 k, .string tx, .slice A n c, .string bd]] w fun e w' => ∃ A' c', e = .returned (.agg ((tameS k tx.size bd.size).m A' c').cells.toArray) ∧ Below w.heap.size w w' ∧ RG w' A' (tameS k tx.size bd.size).groups ∧ ∀ ad, A' = some ad → w.heap.size ≤ ad.block ∧ ad.block < w'.heap.size := by
  have hr3 := withinOf_range k 0 3 (by omega)
  have hr1 := withinOf_range (tx.size : Int) 0 1 (by omega)
  have hr2 := withinOf_range (bd.size : Int) 0 2 (by omega)
  unfold tameS
  obtain ⟨v3, hv3⟩ : ∃ v3, v3 = withinOf k 0 3 := ⟨_, rfl⟩
  obtain ⟨v1, hv1⟩ : ∃ v1, v1 = withinOf (tx.size : Int) 0 1 := ⟨_, rfl⟩
  obtain ⟨v2, hv2⟩ : ∃ v2, v2 = withinOf (bd.size : Int) 0 2 := ⟨_, rfl⟩
  rw [← hv3] at hr3 ⊢
  rw [← hv1] at hr1 ⊢
  rw [← hv2] at hr2 ⊢
  have HV1 := Lib.hid hv1
  have HV2 := Lib.hid hv2
  have HV3 := Lib.hid hv3
  clear hv1 hv2 hv3
  go_enter Try.func17, Try.ntmps17
  go_wp2_with fail
  refine (within_any k 0 3 _ (by omega) (by omega) (by omega) (by omega)).mono ?_
  rw [← HV3.out]
  rintro e w3 ⟨rfl, rfl⟩
  go_wp2_with fail
  refine (within_any tx.size 0 1 _ (by omega) (by omega) (by omega) (by omega)).mono ?_
  rw [← HV1.out]
  rintro e w4 ⟨rfl, rfl⟩
  obtain rfl | rfl : v1 = 0 ∨ v1 = 1 := by omega
  · obtain rfl | h1 : v3 = 0 ∨ 1 ≤ v3 := by omega
    · go_wp2_with fail
      refine (within_any bd.size 0 2 _ (by omega) (by omega) (by omega) (by omega)).mono ?_
      rw [← HV2.out]
      rintro e w5 ⟨rfl, rfl⟩
      obtain rfl | rfl | rfl : v2 = 0 ∨ v2 = 1 ∨ v2 = 2 := by omega
      · go_wp2_with fail
        generalize hW : (World.alloc (World.alloc (World.alloc (World.alloc (World.alloc (World.alloc (World.alloc w _) _) _) _) _) _) _) = W
        obtain ⟨c2, c4, c5, c6, cs, cb⟩ := chain7 w _ _ _ _ _ _ _ W hW.symm
        refine bodyPost_ret (v := .agg #[.int .i64 1, .string ⟨#[]⟩, .slice (some ⟨w.heap.size + 1 + 1 + 1, 0, none⟩) 2 2, .string ⟨#[]⟩]) ?_ rfl ?_
        · exact results_cell_row rfl _ _ (w.heap.size + 1) 24 _ (0, 0) _ rfl c2 Try.underlying24 rfl infoRec
        · exact ⟨some ⟨w.heap.size + 1 + 1 + 1, 0, none⟩, ⟨2, rfl⟩, cb, RG_row _ 3 c4, fun ad e => by cases e; constructor <;> simp only [] <;> omega⟩
      · go_wp2_with fail
        generalize hW : (World.alloc (World.alloc (World.alloc (World.alloc (World.alloc (World.alloc (World.alloc w _) _) _) _) _) _) _) = W
        obtain ⟨c2, c4, c5, c6, cs, cb⟩ := chain7 w _ _ _ _ _ _ _ W hW.symm
        refine bodyPost_ret (v := .agg #[.int .i64 1, .string ⟨#[]⟩, .slice (some ⟨w.heap.size + 1 + 1 + 1 + 1, 0, none⟩) 1 1, .string ⟨#[]⟩]) ?_ rfl ?_
        · exact results_cell_row rfl _ _ (w.heap.size + 1) 24 _ (0, 0) _ rfl c2 Try.underlying24 rfl infoRec
        · exact ⟨some ⟨w.heap.size + 1 + 1 + 1 + 1, 0, none⟩, ⟨1, rfl⟩, cb, RG_row _ 3 c5, fun ad e => by cases e; constructor <;> simp only [] <;> omega⟩
      · go_wp2_with fail
        generalize hW : (World.alloc (World.alloc (World.alloc (World.alloc (World.alloc (World.alloc (World.alloc w _) _) _) _) _) _) _) = W
        obtain ⟨c2, c4, c5, c6, cs, cb⟩ := chain7 w _ _ _ _ _ _ _ W hW.symm
        refine bodyPost_ret (v := .agg #[.int .i64 1, .string ⟨#[]⟩, .slice (some ⟨w.heap.size + 1 + 1 + 1 + 1 + 1, 0, none⟩) 3 3, .string ⟨#[]⟩]) ?_ rfl ?_
        · exact results_cell_row rfl _ _ (w.heap.size + 1) 24 _ (0, 0) _ rfl c2 Try.underlying24 rfl infoRec
        · exact ⟨some ⟨w.heap.size + 1 + 1 + 1 + 1 + 1, 0, none⟩, ⟨3, rfl⟩, cb, RG_row _ 3 c6, fun ad e => by cases e; constructor <;> simp only [] <;> omega⟩
    · have h2 : (1 + v3 == 1) = false := by simp; omega
      go_wp2_with fail
      refine (within_any bd.size 0 2 _ (by omega) (by omega) (by omega) (by omega)).mono ?_
      rw [← HV2.out]
      rintro e w5 ⟨rfl, rfl⟩
      obtain rfl | rfl | rfl : v2 = 0 ∨ v2 = 1 ∨ v2 = 2 := by omega
      · go_wp2_with fail
        generalize hW : (World.alloc (World.alloc (World.alloc (World.alloc (World.alloc (World.alloc (World.alloc w _) _) _) _) _) _) _) = W
        obtain ⟨c2, c4, c5, c6, cs, cb⟩ := chain7 w _ _ _ _ _ _ _ W hW.symm
        refine bodyPost_ret (v := .agg #[.int .i64 (1 + v3), .string ⟨#[116]⟩, .slice (some ⟨w.heap.size + 1 + 1 + 1, 0, none⟩) 2 2, .string ⟨#[]⟩]) ?_ rfl ?_
        · exact results_cell_row rfl _ _ (w.heap.size + 1) 24 _ (0, 0) _ rfl c2 Try.underlying24 rfl infoRec
        · exact ⟨some ⟨w.heap.size + 1 + 1 + 1, 0, none⟩, ⟨2, rfl⟩, cb, RG_row _ 3 c4, fun ad e => by cases e; constructor <;> simp only [] <;> omega⟩
      · go_wp2_with fail
        generalize hW : (World.alloc (World.alloc (World.alloc (World.alloc (World.alloc (World.alloc (World.alloc w _) _) _) _) _) _) _) = W
        obtain ⟨c2, c4, c5, c6, cs, cb⟩ := chain7 w _ _ _ _ _ _ _ W hW.symm
        refine bodyPost_ret (v := .agg #[.int .i64 (1 + v3), .string ⟨#[116]⟩, .slice (some ⟨w.heap.size + 1 + 1 + 1 + 1, 0, none⟩) 1 1, .string ⟨#[]⟩]) ?_ rfl ?_
        · exact results_cell_row rfl _ _ (w.heap.size + 1) 24 _ (0, 0) _ rfl c2 Try.underlying24 rfl infoRec
        · exact ⟨some ⟨w.heap.size + 1 + 1 + 1 + 1, 0, none⟩, ⟨1, rfl⟩, cb, RG_row _ 3 c5, fun ad e => by cases e; constructor <;> simp only [] <;> omega⟩
      · go_wp2_with fail
        generalize hW : (World.alloc (World.alloc (World.alloc (World.alloc (World.alloc (World.alloc (World.alloc w _) _) _) _) _) _) _) = W
        obtain ⟨c2, c4, c5, c6, cs, cb⟩ := chain7 w _ _ _ _ _ _ _ W hW.symm
        refine bodyPost_ret (v := .agg #[.int .i64 (1 + v3), .string ⟨#[116]⟩, .slice (some ⟨w.heap.size + 1 + 1 + 1 + 1 + 1, 0, none⟩) 3 3, .string ⟨#[]⟩]) ?_ rfl ?_
        · exact results_cell_row rfl _ _ (w.heap.size + 1) 24 _ (0, 0) _ rfl c2 Try.underlying24 rfl infoRec
        · exact ⟨some ⟨w.heap.size + 1 + 1 + 1 + 1 + 1, 0, none⟩, ⟨3, rfl⟩, cb, RG_row _ 3 c6, fun ad e => by cases e; constructor <;> simp only [] <;> omega⟩
  · obtain rfl | h1 : v3 = 0 ∨ 1 ≤ v3 := by omega
    · go_wp2_with fail
      refine (within_any bd.size 0 2 _ (by omega) (by omega) (by omega) (by omega)).mono ?_
      rw [← HV2.out]
      rintro e w5 ⟨rfl, rfl⟩
      obtain rfl | rfl | rfl : v2 = 0 ∨ v2 = 1 ∨ v2 = 2 := by omega
      · go_wp2_with fail
        generalize hW : (World.alloc (World.alloc (World.alloc (World.alloc (World.alloc (World.alloc (World.alloc w _) _) _) _) _) _) _) = W
        obtain ⟨c2, c4, c5, c6, cs, cb⟩ := chain7 w _ _ _ _ _ _ _ W hW.symm
        refine bodyPost_ret (v := .agg #[.int .i64 1, .string ⟨#[]⟩, .slice (some ⟨w.heap.size + 1 + 1 + 1, 0, none⟩) 2 2, .string ⟨#[]⟩]) ?_ rfl ?_
        · exact results_cell_row rfl _ _ (w.heap.size + 1) 24 _ (0, 0) _ rfl c2 Try.underlying24 rfl infoRec
        · exact ⟨some ⟨w.heap.size + 1 + 1 + 1, 0, none⟩, ⟨2, rfl⟩, cb, RG_row _ 3 c4, fun ad e => by cases e; constructor <;> simp only [] <;> omega⟩
      · go_wp2_with fail
        generalize hW : (World.alloc (World.alloc (World.alloc (World.alloc (World.alloc (World.alloc (World.alloc w _) _) _) _) _) _) _) = W
        obtain ⟨c2, c4, c5, c6, cs, cb⟩ := chain7 w _ _ _ _ _ _ _ W hW.symm
        refine bodyPost_ret (v := .agg #[.int .i64 1, .string ⟨#[]⟩, .slice (some ⟨w.heap.size + 1 + 1 + 1 + 1, 0, none⟩) 1 1, .string ⟨#[]⟩]) ?_ rfl ?_
        · exact results_cell_row rfl _ _ (w.heap.size + 1) 24 _ (0, 0) _ rfl c2 Try.underlying24 rfl infoRec
        · exact ⟨some ⟨w.heap.size + 1 + 1 + 1 + 1, 0, none⟩, ⟨1, rfl⟩, cb, RG_row _ 3 c5, fun ad e => by cases e; constructor <;> simp only [] <;> omega⟩
      · go_wp2_with fail
        generalize hW : (World.alloc (World.alloc (World.alloc (World.alloc (World.alloc (World.alloc (World.alloc w _) _) _) _) _) _) _) = W
        obtain ⟨c2, c4, c5, c6, cs, cb⟩ := chain7 w _ _ _ _ _ _ _ W hW.symm
        refine bodyPost_ret (v := .agg #[.int .i64 1, .string ⟨#[]⟩, .slice (some ⟨w.heap.size + 1 + 1 + 1 + 1 + 1, 0, none⟩) 3 3, .string ⟨#[]⟩]) ?_ rfl ?_
        · exact results_cell_row rfl _ _ (w.heap.size + 1) 24 _ (0, 0) _ rfl c2 Try.underlying24 rfl infoRec
        · exact ⟨some ⟨w.heap.size + 1 + 1 + 1 + 1 + 1, 0, none⟩, ⟨3, rfl⟩, cb, RG_row _ 3 c6, fun ad e => by cases e; constructor <;> simp only [] <;> omega⟩
    · have h2 : (1 + v3 == 1) = false := by simp; omega
      go_wp2_with fail
      refine (within_any bd.size 0 2 _ (by omega) (by omega) (by omega) (by omega)).mono ?_
      rw [← HV2.out]
      rintro e w5 ⟨rfl, rfl⟩
      obtain rfl | rfl | rfl : v2 = 0 ∨ v2 = 1 ∨ v2 = 2 := by omega
      · go_wp2_with fail
        generalize hW : (World.alloc (World.alloc (World.alloc (World.alloc (World.alloc (World.alloc (World.alloc w _) _) _) _) _) _) _) = W
        obtain ⟨c2, c4, c5, c6, cs, cb⟩ := chain7 w _ _ _ _ _ _ _ W hW.symm
        refine bodyPost_ret (v := .agg #[.int .i64 (1 + v3), .string ⟨#[117]⟩, .slice (some ⟨w.heap.size + 1 + 1 + 1, 0, none⟩) 2 2, .string ⟨#[]⟩]) ?_ rfl ?_
        · exact results_cell_row rfl _ _ (w.heap.size + 1) 24 _ (0, 0) _ rfl c2 Try.underlying24 rfl infoRec
        · exact ⟨some ⟨w.heap.size + 1 + 1 + 1, 0, none⟩, ⟨2, rfl⟩, cb, RG_row _ 3 c4, fun ad e => by cases e; constructor <;> simp only [] <;> omega⟩
      · go_wp2_with fail
        generalize hW : (World.alloc (World.alloc (World.alloc (World.alloc (World.alloc (World.alloc (World.alloc w _) _) _) _) _) _) _) = W
        obtain ⟨c2, c4, c5, c6, cs, cb⟩ := chain7 w _ _ _ _ _ _ _ W hW.symm
        refine bodyPost_ret (v := .agg #[.int .i64 (1 + v3), .string ⟨#[117]⟩, .slice (some ⟨w.heap.size + 1 + 1 + 1 + 1, 0, none⟩) 1 1, .string ⟨#[]⟩]) ?_ rfl ?_
        · exact results_cell_row rfl _ _ (w.heap.size + 1) 24 _ (0, 0) _ rfl c2 Try.underlying24 rfl infoRec
        · exact ⟨some ⟨w.heap.size + 1 + 1 + 1 + 1, 0, none⟩, ⟨1, rfl⟩, cb, RG_row _ 3 c5, fun ad e => by cases e; constructor <;> simp only [] <;> omega⟩
      · go_wp2_with fail
        generalize hW : (World.alloc (World.alloc (World.alloc (World.alloc (World.alloc (World.alloc (World.alloc w _) _) _) _) _) _) _) = W
        obtain ⟨c2, c4, c5, c6, cs, cb⟩ := chain7 w _ _ _ _ _ _ _ W hW.symm
        refine bodyPost_ret (v := .agg #[.int .i64 (1 + v3), .string ⟨#[117]⟩, .slice (some ⟨w.heap.size + 1 + 1 + 1 + 1 + 1, 0, none⟩) 3 3, .string ⟨#[]⟩]) ?_ rfl ?_
        · exact results_cell_row rfl _ _ (w.heap.size + 1) 24 _ (0, 0) _ rfl c2 Try.underlying24 rfl infoRec
        · exact ⟨some ⟨w.heap.size + 1 + 1 + 1 + 1 + 1, 0, none⟩, ⟨3, rfl⟩, cb, RG_row _ 3 c6, fun ad e => by cases e; constructor <;> simp only [] <;> omega⟩
end Go.Proofs.Ytjakhemolecbnaa
end

/-
  The walk of the book's Same on ints.
-/
section
set_option linter.unusedVariables false
set_option linter.unusedSimpArgs false
namespace Go.Proofs.Ytjakhemolecbnaa
open Go.RowKit

set_option maxHeartbeats 2000000 in
theorem sameI_any (A1 A2 : Option Addr) (n1 n2 c1 c2 : Nat) (z1 z2 : List Int) (w : World) (hl1 : z1.length = n1) (hl2 : z2.length = n2) (hn : n1 ≤ 100000000) (hr1 : RG w A1 z1) (hr2 : RG w A2 z2) :
    Calls Try.prog 13 #[.slice A1 n1 c1, .slice A2 n2 c2] w fun e w' => e = .returned (.bool (decide (z1 = z2))) ∧ Below w.heap.size w w' := by
  subst hl1
  subst hl2
  have H1 := Lib.hid hr1
  have H2 := Lib.hid hr2
  clear hr1 hr2
  by_cases hll : z1.length = z2.length
  · obtain ⟨R, eR⟩ : ∃ R, R = decide (z1 = z2) := ⟨_, rfl⟩
    rw [← eR]
    have ER := Lib.hid eR
    have HLL := Lib.hid hll
    rw [← hll]
    clear eR hll
    go_enter Try.func13, Try.ntmps13
    go_wp2_with fail
    go_loopg [5] z1.length (fun k s5 wr => ∃ i : Nat, i ≤ z1.length ∧ k = z1.length - i ∧ s5 = .int .i64 (i : Int) ∧ (∀ j, j < i → z1[j]? = z2[j]?) ∧ Below w.heap.size w wr)
    case atStart => exact ⟨0, Nat.zero_le _, by omega, rfl, fun j hj => absurd hj (Nat.not_lt_zero _), Below.refl _ _⟩
    case round =>
      obtain ⟨i, hi, hk, rfl, hz, hb⟩ := hrel
      have HK := Lib.hid hk
      have HZ := Lib.hid hz
      have HB := Lib.hid hb
      clear hk hz hb
      by_cases hlt : i < z1.length
      · have hlt2 : i < z2.length := by rw [← HLL.out]; exact hlt
        obtain ⟨b1, o1, rfl, hc1⟩ := H1.out.part (by omega)
        obtain ⟨b2, o2, rfl, hc2⟩ := H2.out.part (by omega)
        have k1 := cell_below HB.out (hc1 i hlt)
        have k2 := cell_below HB.out (hc2 i hlt2)
        have g1 := Lib.hid (show z1[i]? = some z1[i] from List.getElem?_eq_getElem hlt)
        have g2 := Lib.hid (show z2[i]? = some z2[i] from List.getElem?_eq_getElem hlt2)
        generalize z1[i] = x1 at *
        generalize z2[i] = x2 at *
        have HLT := Lib.hid hlt
        have i0 : (0 : Int) ≤ (i : Int) := by omega
        have i1 : (i : Int) < (z1.length : Int) := by omega
        clear hc1 hc2 hi hlt2
        by_cases hx : x1 = x2
        · subst hx
          go_wp2_with fail
          go_region
          all_goals
            go_wp2_with fail
            go_roundg (z1.length - (i + 1))
            case measure => have := HK.out; have := HLT.out; omega
            case rel =>
              refine ⟨i + 1, HLT.out, rfl, by go_num, fun j hj => ?_, HB.out.drew⟩
              by_cases h : j = i
              · rw [h, g1.out, g2.out]
              · exact HZ.out j (by omega)
        · have hx1 : (x1 != x2) = true := by simpa using hx
          have HX := Lib.hid hx
          clear hx
          go_wp2_with fail
          go_region
          all_goals
            go_wp2_with fail
            go_ret
            refine ⟨ret_bool ?_, HB.out.drew⟩
            rw [ER.out]
            refine (decide_eq_false fun e => HX.out ?_).symm
            have h1 := g1.out
            rw [e, g2.out] at h1
            exact (Option.some.inj h1).symm
      · obtain rfl : i = z1.length := by omega
        go_wp2_with fail
        go_ret
        refine ⟨ret_bool ?_, HB.out⟩
        rw [ER.out]
        refine (decide_eq_true (List.ext_getElem? fun j => ?_)).symm
        by_cases h : j < z1.length
        · exact HZ.out j h
        · rw [List.getElem?_eq_none (by omega), List.getElem?_eq_none (by rw [← HLL.out]; omega)]
  · have hd : decide (z1 = z2) = false := decide_eq_false fun e => hll (by rw [e])
    rw [hd]
    have hne : ((z1.length : Int) != (z2.length : Int)) = true := by simp; omega
    clear hd hll
    go_enter Try.func13, Try.ntmps13
    go_wp2_with fail
    go_ret
    exact ⟨rfl, Below.refl _ _⟩
end Go.Proofs.Ytjakhemolecbnaa
end

/-
  Arguments that are slices of ints, and slices of slices of bytes, as they are read.
-/
section
set_option linter.unusedVariables false
set_option linter.unusedSimpArgs false
namespace Go.Proofs.Ytjakhemolecbnaa
open Go.RowKit

/-- A slice of ints that reads as zs. -/
def RI (w : World) (A : Option Addr) (zs : List Int) : Prop :=
  0 < zs.length → ∃ ad, A = some ad ∧ ∀ j (h : j < zs.length), w.cell? (ad.add j) = some (.int .i64 zs[j]) ∧ -9223372036854775808 ≤ zs[j] ∧ zs[j] ≤ 9223372036854775807
theorem RI.step {w w' : World} {A : Option Addr} {l : List Int} (h : RI w A l) (hc : ∀ a v, w.cell? a = some v → w'.cell? a = some v) : RI w' A l := by
  intro h0
  obtain ⟨ad, e, hr⟩ := h h0
  exact ⟨ad, e, fun j hj => ⟨hc _ _ (hr j hj).1, (hr j hj).2⟩⟩
theorem RI.below {w w' : World} {A : Option Addr} {l : List Int} (h : RI w A l) (hb : Below w.heap.size w w') : RI w' A l := h.step fun _ _ => cell_below hb

/-- A slice of slices of bytes that reads as L. -/
def RBB (w : World) (A : Option Addr) (L : List (List UInt8)) : Prop :=
  0 < L.length → ∃ ad, A = some ad ∧ ∀ i (h : i < L.length), ∃ Ai ci, w.cell? (ad.add i) = some (.slice Ai L[i].length ci) ∧ L[i].length ≤ ci ∧ ci ≤ maxLen ∧ RB w Ai L[i]
theorem RBB.step {w w' : World} {A : Option Addr} {L : List (List UInt8)} (h : RBB w A L) (hc : ∀ a v, w.cell? a = some v → w'.cell? a = some v) : RBB w' A L := by
  intro h0
  obtain ⟨ad, e, hr⟩ := h h0
  refine ⟨ad, e, fun j hj => ?_⟩
  obtain ⟨Ai, ci, h1, h2, h3, h4⟩ := hr j hj
  exact ⟨Ai, ci, hc _ _ h1, h2, h3, h4.step hc⟩
theorem RBB.below {w w' : World} {A : Option Addr} {L : List (List UInt8)} (h : RBB w A L) (hb : Below w.heap.size w w') : RBB w' A L := h.step fun _ _ => cell_below hb

section
open Go.ChangeShapes Go.WideShapes Go.ChangeAt Go.Deep
variable {H : Type} {enc : TypeId × Value → H} {w : World}

theorem wf8 {n : Int} (h : (Lit.int .u8 n).wf = true) : 0 ≤ n ∧ n < 256 := by
  simp [Lit.wf, IntKind.min, IntKind.max, IntKind.signed, IntKind.bits] at h
  omega

theorem bytes_of {A : Option Addr} {len cap : Nat} {zs : List Int} (hl : len ≤ cap) (hz : zs.length = cap) (hw : ∀ n ∈ zs, (Lit.int .u8 n).wf = true) (hn : A = none → cap = 0)
    (hc : ∀ a, A = some a → ∀ i, i < cap → w.cell? (a.add i) = some (.int .u8 (zs.getD i 0))) : ∃ l : List UInt8, l.length = len ∧ RB w A l := by
  refine ⟨(zs.take len).map fun n => UInt8.ofNat n.toNat, by simp; omega, fun h0 => ?_⟩
  cases A with
  | none => have := hn rfl; simp at h0; omega
  | some a =>
    refine ⟨a, rfl, fun j hj => ?_⟩
    have hj' : j < zs.length := by simp at hj; omega
    rw [hc a rfl j (by omega)]
    have hb := wf8 (hw _ (List.getElem_mem hj'))
    simp [List.getD_eq_getElem?_getD, List.getElem?_eq_getElem hj', un8]
    omega

/-- An argument of bytes. -/
theorem arg_bytes {fuel len cap : Nat} {A : Option Addr} {x : DataW H × List MemPlace}
    (hf : DataW.trod enc Try.prog w 0 (fun _ => true) true fuel 25 (Value.slice A len cap).cells.toList = some x) : ∃ l : List UInt8, l.length = len ∧ len ≤ cap ∧ cap ≤ maxLen ∧ RB w A l := by
  rcases open_ints Try.underlying25 Try.underlying5 (by kernel_rfl) hf with ⟨hcs, _⟩ | ⟨a, l, c, zs, hcs, _, hl, hm, hz, _, hcell, hwz⟩
  · simp [Value.cells] at hcs
    obtain ⟨rfl, rfl, rfl⟩ := hcs
    exact ⟨[], rfl, Nat.le_refl _, by simp [maxLen], RB.nil _ _⟩
  · simp [Value.cells] at hcs
    obtain ⟨rfl, rfl, rfl⟩ := hcs
    simp only [if_true] at hz
    obtain ⟨l, h1, h2⟩ := bytes_of (w := w) (A := some a) hl hz hwz (fun h => by cases h) (fun a' h i hi => by cases h; exact hcell i (by omega))
    exact ⟨l, h1, hl, hm, h2⟩

/-- An argument of ints. -/
theorem arg_ints {fuel len cap : Nat} {A : Option Addr} {x : DataW H × List MemPlace}
    (hf : DataW.trod enc Try.prog w 0 (fun _ => true) true fuel 22 (Value.slice A len cap).cells.toList = some x) : ∃ l : List Int, l.length = len ∧ len ≤ cap ∧ cap ≤ maxLen ∧ RI w A l := by
  rcases open_ints Try.underlying22 Try.underlying3 (by kernel_rfl) hf with ⟨hcs, _⟩ | ⟨a, l, c, zs, hcs, _, hl, hm, hz, _, hcell, hwz⟩
  · simp [Value.cells] at hcs
    obtain ⟨rfl, rfl, rfl⟩ := hcs
    exact ⟨[], rfl, Nat.le_refl _, by simp [maxLen], fun h => absurd h (by simp)⟩
  · simp [Value.cells] at hcs
    obtain ⟨rfl, rfl, rfl⟩ := hcs
    simp only [if_true] at hz
    refine ⟨zs.take len, by simp; omega, hl, hm, fun _ => ⟨a, rfl, fun j hj => ?_⟩⟩
    have hj' : j < zs.length := by simp at hj; omega
    have h1 := hcell j (by omega)
    have h2 := wf64 (hwz _ (List.getElem_mem hj'))
    simp [List.getD_eq_getElem?_getD, List.getElem?_eq_getElem hj'] at h1 ⊢
    exact ⟨h1, h2⟩

end

end Go.Proofs.Ytjakhemolecbnaa
end

/-
  Arguments that are records, and slices of records, as they are read.
-/
section
set_option linter.unusedVariables false
set_option linter.unusedSimpArgs false
namespace Go.Proofs.Ytjakhemolecbnaa
open Go.RowKit

theorem reach_is : reachBytes = 140737488351232 := by decide
section
open Go.ChangeShapes Go.WideShapes Go.ChangeAt Go.Deep
variable {H : Type} {enc : TypeId × Value → H} {w : World}

theorem weightsAll_mem {P : Program} {e : TypeId} : ∀ {ds : List (DataW H)} {d : DataW H}, d ∈ ds → ∀ n ∈ d.weights P e, n ∈ DataW.weightsAll P e ds
  | d0 :: ds, d, hd, n, hn => by
    simp only [DataW.weightsAll, List.mem_append]
    rcases List.mem_cons.1 hd with rfl | hd
    · exact .inl hn
    · exact .inr (weightsAll_mem hd n hn)
theorem weights_arg {P : Program} {ts : List TypeId} {ds : List (DataW H)} {j : Nat} {t : TypeId} {d : DataW H} (h : (DataW.weightsEach P ts ds).all (· ≤ reachBytes) = true) (ht : ts[j]? = some t) (hd : ds[j]? = some d) :
    ∀ n ∈ d.weights P t, n ≤ reachBytes := fun n hn => by
  have := List.all_eq_true.1 h n (DataW.weights_mem_each ht hd n hn)
  simpa using this
theorem weights_elem {P : Program} {t e : TypeId} {els spare : List (DataW H)} (ht : P.underlying t = some (.slice e)) (h : ∀ n ∈ (DataW.slice els spare).weights P t, n ≤ reachBytes) : ∀ d ∈ els, ∀ n ∈ d.weights P e, n ≤ reachBytes := by
  intro d hd n hn
  refine h n ?_
  unfold DataW.weights
  rw [ht]
  exact List.mem_cons_of_mem _ (List.mem_append_left _ (weightsAll_mem hd n hn))
theorem weights_len {P : Program} {t e : TypeId} {els spare : List (DataW H)} (ht : P.underlying t = some (.slice e)) (h : ∀ n ∈ (DataW.slice els spare).weights P t, n ≤ reachBytes) : (els.length + spare.length) * P.bytesOf e ≤ reachBytes := by
  refine h _ ?_
  unfold DataW.weights
  rw [ht]
  exact List.mem_cons_self ..
theorem weights_field {P : Program} {t : TypeId} {fs : Array Field} {parts : List (DataW H)} (ht : P.underlying t = some (.struct fs)) (h : ∀ n ∈ (DataW.agg parts).weights P t, n ≤ reachBytes) {j : Nat} {f : Field} {d : DataW H} (hf : fs[j]? = some f) (hd : parts[j]? = some d) :
    ∀ n ∈ d.weights P f.type, n ≤ reachBytes := by
  intro n hn
  refine h n ?_
  unfold DataW.weights
  rw [ht]
  exact DataW.weights_mem_each (j := j) (t := f.type) (d := d) (by rw [List.getElem?_map, Array.getElem?_toList, hf]; rfl) hd n hn

theorem cell_i64 {fuel : Nat} {t : TypeId} {v : Value} {x : DataW H × List MemPlace} (ht : Try.prog.underlying t = some (.int .i64)) (hf : DataW.trod enc Try.prog w 0 (fun _ => true) true fuel t [v] = some x) :
    ∃ n : Int, v = .int .i64 n ∧ -9223372036854775808 ≤ n ∧ n ≤ 9223372036854775807 := by
  obtain ⟨n, h1, h2, h3⟩ := DataW.trod_int ht hf
  have hw := wf64 h3
  exact ⟨n, by simpa using h1, hw.1, hw.2⟩

set_option maxRecDepth 100000
/-- A slice of ints. -/
theorem slice_ints {fuel : Nat} {v : Value} {x : DataW H × List MemPlace}
    (hf : DataW.trod enc Try.prog w 0 (fun _ => true) true fuel 22 [v] = some x) (hz : ∀ n ∈ x.1.weights Try.prog 22, n ≤ reachBytes) :
    ∃ (A : Option Addr) (c : Nat) (zs : List Int), v = .slice A zs.length c ∧ zs.length ≤ c ∧ zs.length * 8 ≤ 140737488351232 ∧ RG w A zs ∧ (∀ z ∈ zs, -9223372036854775808 ≤ z ∧ z ≤ 9223372036854775807) ∧ (A = none → c = 0) := by
  have hb : Try.prog.bytesOf 3 = 8 := by kernel_rfl
  rcases open_slice1 Try.underlying22 (by kernel_rfl) hf with ⟨hcs, _⟩ | ⟨a, l, c, m, n, V, D, Pl, hcs, _, hl, hm, hmm, rfl, hx⟩
  · simp at hcs
    exact ⟨none, 0, [], hcs, Nat.le_refl _, by simp, fun h => absurd h (by simp), (fun z hz => by cases hz), fun _ => rfl⟩
  · simp at hcs
    simp only [if_true] at hmm
    have hlen := weights_len Try.underlying22 hz
    rw [hb, reach_is, List.length_map, List.length_map, List.length_range, List.length_range] at hlen
    have each : ∀ i, i < l → ∃ z : Int, V i = .int .i64 z ∧ -9223372036854775808 ≤ z ∧ z ≤ 9223372036854775807 := by
      intro i hi
      obtain ⟨n, h1, h2, h3⟩ := DataW.trod_int Try.underlying3 (hx i (by omega)).2
      have hw := wf64 h3
      exact ⟨n, by simpa using h1, hw.1, hw.2⟩
    obtain ⟨q, hq⟩ := choose_lt each
    refine ⟨some a, c, (List.range l).map q, by simpa using hcs, by simpa using hl, by simp; omega, fun _ => ⟨a, rfl, fun j u hj => ?_⟩, fun z hz => ?_, fun e => by cases e⟩
    · have hj' : j < l := by
        have := (List.getElem?_eq_some_iff.1 hj).1
        simpa using this
      rw [(hx j (by omega)).1, (hq j hj').1]
      simp [hj'] at hj
      rw [← hj]
    · obtain ⟨i, hi, rfl⟩ := List.mem_map.1 hz
      exact (hq i (List.mem_range.1 hi)).2

/-- A record that came in. -/
structure RmIn (w : World) (m : Rm) : Prop where
  k : -9223372036854775808 ≤ m.kind ∧ m.kind ≤ 9223372036854775807
  tx : m.tx.length ≤ 140737488351232
  bd : m.body.length ≤ 140737488351232
  g : RG w m.A m.groups
  gc : m.groups.length ≤ m.c
  gl : m.groups.length * 8 ≤ 140737488351232
  gz : ∀ z ∈ m.groups, -9223372036854775808 ≤ z ∧ z ≤ 9223372036854775807
theorem RmIn.below {w w' : World} {m : Rm} (h : RmIn w m) (hb : Below w.heap.size w w') : RmIn w' m := ⟨h.k, h.tx, h.bd, h.g.below hb, h.gc, h.gl, h.gz⟩
set_option maxRecDepth 100000 in
/-- A record's cells. -/
theorem cells_rec {fuel : Nat} {cs : List Value} {x : DataW H × List MemPlace}
    (hf : DataW.trod enc Try.prog w 0 (fun _ => true) true fuel 24 cs = some x) (hz : ∀ n ∈ x.1.weights Try.prog 24, n ≤ reachBytes) :
    ∃ m : Rm, cs = m.cells ∧ RmIn w m := by
  obtain ⟨xs, k, hk, hxy, hcl, hxl, hfd⟩ := DataW.trod_struct Try.underlying24 hf
  have ce : Try.prog.cellsOf 24 = 4 := by kernel_rfl
  rw [ce] at hcl
  match xs, hxl, cs, hcl with
  | [y0, y1, y2, y3], _, [v0, v1, v2, v3], _ =>
    have g0 := hfd 0 _ rfl
    have g1 := hfd 1 _ rfl
    have g2 := hfd 2 _ rfl
    have g3 := hfd 3 _ rfl
    have ci : Try.prog.cellsOf 3 = 1 := by kernel_rfl
    have cb : Try.prog.cellsOf 9 = 1 := by kernel_rfl
    have cg : Try.prog.cellsOf 22 = 1 := by kernel_rfl
    simp [ci, cb, cg] at g0 g1 g2 g3
    obtain ⟨kd, rfl, r0⟩ := cell_i64 Try.underlying3 g0
    obtain ⟨s1, h1s, h1d, _⟩ := DataW.trod_string Try.underlying9 g1
    obtain ⟨s3, h3s, h3d, _⟩ := DataW.trod_string Try.underlying9 g3
    simp at h1s h3s
    subst h1s h3s
    subst hxy
    have hw1 := weights_field Try.underlying24 hz (j := 1) rfl (by simp; rfl)
    have hw2 := weights_field Try.underlying24 hz (j := 2) rfl (by simp; rfl)
    have hw3 := weights_field Try.underlying24 hz (j := 3) rfl (by simp; rfl)
    obtain ⟨A, c, zs, rfl, z1, z2, z3, z4, z5⟩ := slice_ints g2 hw2
    have l1 : s1.data.toList.length ≤ 140737488351232 := by
      have e : y1.1 = .lit (.string s1.data.toList) := (Prod.ext_iff.1 h1d).1
      have := hw1 s1.data.toList.length (by rw [e]; simp [DataW.weights])
      rwa [reach_is] at this
    have l3 : s3.data.toList.length ≤ 140737488351232 := by
      have e : y3.1 = .lit (.string s3.data.toList) := (Prod.ext_iff.1 h3d).1
      have := hw3 s3.data.toList.length (by rw [e]; simp [DataW.weights])
      rwa [reach_is] at this
    refine ⟨⟨kd, s1.data.toList, A, c, zs, s3.data.toList⟩, ?_, ⟨r0, l1, l3, z3, z1, z2, z4⟩⟩
    rfl

/-- An argument that is a record. -/
theorem arg_rec {fuel : Nat} {v : Value} {b0 : Nat} {x : DataW H × List MemPlace}
    (hf : DataW.trod enc Try.prog w 0 (fun _ => true) true fuel 24 v.cells.toList = some x) (hval : Value.okWide Try.prog w .any b0 24 v) (hz : ∀ n ∈ x.1.weights Try.prog 24, n ≤ reachBytes) :
    ∃ m : Rm, v = .agg m.cells.toArray ∧ RmIn w m := by
  obtain ⟨cs, rfl, _⟩ := okWide_struct Try.underlying24 hval
  obtain ⟨m, h0, h⟩ := cells_rec hf hz
  refine ⟨m, ?_, h⟩
  have : cs.toList = m.cells := h0
  congr 1
  apply Array.ext'
  rw [this]

set_option maxRecDepth 100000 in
/-- An argument of records. -/
theorem arg_recs {fuel len cap : Nat} {A : Option Addr} {x : DataW H × List MemPlace}
    (hf : DataW.trod enc Try.prog w 0 (fun _ => true) true fuel 29 (Value.slice A len cap).cells.toList = some x) (hz : ∀ n ∈ x.1.weights Try.prog 29, n ≤ reachBytes) :
    ∃ L : List Rm, L.length = len ∧ len ≤ cap ∧ cap ≤ maxLen ∧ RC w A (rmc L) ∧ ∀ m ∈ L, RmIn w m := by
  rcases open_slice Try.underlying29 hf with ⟨hcs, _⟩ | ⟨a, l, c, m, n, D, Pl, hcs, _, hl, hm, hmm, rfl, hx⟩
  · simp [Value.cells] at hcs
    obtain ⟨rfl, rfl, rfl⟩ := hcs
    exact ⟨[], rfl, Nat.le_refl _, by simp [maxLen], RC.nil _ _, fun q hq => by cases hq⟩
  · simp [Value.cells] at hcs
    obtain ⟨rfl, rfl, rfl⟩ := hcs
    simp only [if_true] at hmm
    have hw := weights_elem Try.underlying29 hz
    have ce : Try.prog.cellsOf 24 = 4 := by kernel_rfl
    have each : ∀ i, i < len → ∃ q : Rm, RmIn w q ∧ ∀ j u, j < 4 → q.cells[j]? = some u → w.cell? (a.add (i * 4 + j)) = some u := by
      intro i hi
      obtain ⟨cs', h1, h2⟩ := hx i (by omega)
      rw [ce] at h1
      obtain ⟨_, hlen, hcell⟩ := World.cells?_some h1
      obtain ⟨q, rfl, hq⟩ := cells_rec h2 (hw (D i) (List.mem_map.2 ⟨i, List.mem_range.2 hi, rfl⟩))
      refine ⟨q, hq, fun j u hj hu => ?_⟩
      have e := hcell j hj
      rw [Go.Deep.add_add] at e
      rw [e]
      exact hu
    haveI : Inhabited Rm := ⟨⟨0, [], none, 0, [], []⟩⟩
    obtain ⟨q, hq⟩ := choose_lt each
    refine ⟨(List.range len).map q, by simp, hl, hm, fun _ => ⟨a, rfl, fun j u hj => ?_⟩, fun e he => ?_⟩
    · have hjl : j < len * 4 := by
        have := (List.getElem?_eq_some_iff.1 hj).1
        rw [rmc_length] at this
        simpa using this
      have hi : j / 4 < len := by omega
      have e1 : j = j / 4 * 4 + j % 4 := by omega
      have hg := rmc_get ((List.range len).map q) (j / 4) (by simpa using hi)
      simp only [List.getElem_map, List.getElem_range] at hg
      rw [e1]
      refine (hq (j / 4) hi).2 (j % 4) u (by omega) ?_
      rw [e1] at hj
      have h4 : j % 4 = 0 ∨ j % 4 = 1 ∨ j % 4 = 2 ∨ j % 4 = 3 := by omega
      rcases h4 with h4 | h4 | h4 | h4 <;> rw [h4] at hj ⊢
      · rw [Nat.add_zero, hg.1] at hj; exact hj
      · rw [hg.2.1] at hj; exact hj
      · rw [hg.2.2.1] at hj; exact hj
      · rw [hg.2.2.2] at hj; exact hj
    · simp only [List.mem_map, List.mem_range] at he
      obtain ⟨i, hi, rfl⟩ := he
      exact (hq i hi).1
end
end Go.Proofs.Ytjakhemolecbnaa
end

/-
  The walk of Outcomes.
-/
section
set_option linter.unusedVariables false
set_option linter.unusedSimpArgs false
namespace Go.Proofs.Ytjakhemolecbnaa
open Go.RowKit

/-- Whether a text is a record of a kind and a transaction. -/
def recO (k : Int) (tx s : List UInt8) : Bool := match readS s with | some r => decide (r.tx = tx) && decide (r.kind = k) | none => false
def hasO (k : Int) (tx : List UInt8) (M : Lks) : Bool := M.any fun x => recO k tx x.1
def linksD (l : List UInt8) : Lks := match decS l with | .inl _ => [] | .inr M => M
def anyO (k : Int) (tx : List UInt8) (L : List Cl) : Bool := L.any fun x => hasO k tx (linksD x.l)
def outS (tx : List UInt8) (L : List Cl) : List Int := (if anyO 3 tx L = true then [1] else []) ++ (if anyO 4 tx L = true then [2] else [])
theorem any_take {α : Type} (p : α → Bool) (l : List α) (i : Nat) (x : α) (h : l[i]? = some x) : (l.take (i + 1)).any p = ((l.take i).any p || p x) := by
  obtain ⟨hi, rfl⟩ := List.getElem?_eq_some_iff.1 h
  rw [List.take_succ_eq_append_getElem hi, List.any_append]
  simp

theorem decode_l (A : Option Addr) (n c : Nat) (l : List UInt8) (w : World) (hl : l.length = n) (hll : l.length ≤ 17000000) (hr : RB w A l) (hnil : A = none → c = 0) :
    Calls Try.prog 36 #[.slice A n c] w fun e w' => Below w.heap.size w w' ∧ ∃ (bl : Option Addr) (cl : Nat) (why en : Int), e = .returned (.tuple #[.slice bl (linksD l).length cl, .int .i64 why, .int .i64 en]) ∧ w'.ownsRow w.heap.size 92 33 (.slice bl (linksD l).length cl) (linksD l).length (lv (linksD l)) ∧ (∀ x ∈ linksD l, x.2.length = 32) ∧ (∀ x ∈ linksD l, x.1.length ≤ 4000) ∧ (linksD l).length ≤ 4096 := by
  refine (decode_g A n c l w hl hll hr hnil).mono ?_
  rintro e w' ⟨hb, hd⟩
  refine ⟨hb, ?_⟩
  rcases hd with ⟨why, en, hde, rfl⟩ | ⟨M, v, hde, rfl, hvo, hMh, hMt, hMl⟩
  · have e0 : linksD l = [] := by unfold linksD; rw [hde]
    rw [e0]
    exact ⟨none, 0, why, en, rfl, World.ownsRow_nil _ _ _ _, (fun x hx => by cases hx), (fun x hx => by cases hx), Nat.zero_le _⟩
  · have e0 : linksD l = M := by unfold linksD; rw [hde]
    rw [e0]
    obtain ⟨bl, cl, rfl, hcl⟩ := own_slice hvo
    exact ⟨bl, cl, 0, 0, rfl, hvo, hMh, hMt, hMl⟩

set_option maxRecDepth 100000 in
set_option maxHeartbeats 8000000 in
theorem outcomes_any (A : Option Addr) (n c : Nat) (L : List Cl) (tx : List UInt8) (w : World) (hl : L.length = n) (hn : n ≤ 1000) (hr : ClsAt w A L) :
    Calls Try.prog 14 #[.slice A n c, .string (strB tx)] w fun e w' => ∃ A' c', e = .returned (.slice A' (outS tx L).length c') ∧ Below w.heap.size w w' ∧ RG w' A' (outS tx L) := by
  subst hl
  have HR := Lib.hid hr
  have HN := Lib.hid hn
  obtain ⟨z33, hz33⟩ : ∃ z33, z33 = (lk ([], hd0)).toArray := ⟨_, rfl⟩
  have HZ33 := Lib.hid hz33
  obtain ⟨zt, hzt⟩ : ∃ zt, zt = strB tx := ⟨_, rfl⟩
  rw [← hzt]
  have HZT := Lib.hid hzt
  clear hz33 hr hn hzt
  go_enter Try.func14, Try.ntmps14
  go_wp2_with fail
  go_loopg [5, 6, 19] L.length (fun k s5 s6 s19 wr => ∃ i : Nat, i ≤ L.length ∧ k = L.length - i ∧ s5 = .bool (anyO 3 tx (L.take i)) ∧ s6 = .bool (anyO 4 tx (L.take i)) ∧ s19 = .int .i64 (i : Int) ∧ Below w.heap.size w wr)
  case atStart => exact ⟨0, Nat.zero_le _, by omega, rfl, rfl, rfl, Below.refl _ _⟩
  case round =>
    obtain ⟨i, hi, hk, rfl, rfl, rfl, hb⟩ := hrel
    have HK := Lib.hid hk
    have HB := Lib.hid hb
    clear hk hb
    have hi2 : (i : Int) ≤ 1000 := by have := HN.out; omega
    by_cases hlt : i < L.length
    · obtain ⟨x, hx⟩ : ∃ x, L[i]? = some x := ⟨_, List.getElem?_eq_getElem hlt⟩
      have HXM := Lib.hid (List.mem_of_getElem? hx)
      have T3 := Lib.hid (show anyO 3 tx (L.take (i + 1)) = (anyO 3 tx (L.take i) || hasO 3 tx (linksD x.l)) from any_take _ L i x hx)
      have T4 := Lib.hid (show anyO 4 tx (L.take (i + 1)) = (anyO 4 tx (L.take i) || hasO 4 tx (linksD x.l)) from any_take _ L i x hx)
      obtain ⟨b1, o1, rfl, e1⟩ := (HR.out.r).part (by rw [clc_length]; omega)
      have q0 : wr.cell? ⟨b1, o1 + i * 2, none⟩ = some (.int .i64 x.g) := cell_below HB.out (e1 _ _ ((clc_get L i x hx 0 (by omega)).trans rfl))
      have q1 : wr.cell? ⟨b1, o1 + i * 2 + 1, none⟩ = some (.slice x.A x.l.length x.c) := by
        rw [Nat.add_assoc]
        exact cell_below HB.out (e1 _ _ ((clc_get L i x hx 1 (by omega)).trans rfl))
      have hi0 : (0 : Int) ≤ (i : Int) := by omega
      have hi1 : (i : Int) < (L.length : Int) := by omega
      have hb5 : Below wr.heap.size wr (wr.alloc (.cells #[.int .i64 x.g, .slice x.A x.l.length x.c] 27)) := (Below.refl _ _).alloc (Nat.le_refl _) _
      have hx5 := heap_alloc_new wr (.cells #[.int .i64 x.g, .slice x.A x.l.length x.c] 27)
      obtain ⟨w5, hw5⟩ : ∃ w5, w5 = wr.alloc (.cells #[.int .i64 x.g, .slice x.A x.l.length x.c] 27) := ⟨_, rfl⟩
      rw [← hw5] at hb5 hx5
      obtain ⟨g6, hg6⟩ : ∃ g6, g6 = wr.heap.size := ⟨_, rfl⟩
      have HXB := Lib.hid (show RB w5 x.A x.l ∧ (x.A = none → x.c = 0) ∧ x.l.length ≤ 17000000 by
        have h := HR.out.b x HXM.out
        exact ⟨(h.1.below HB.out).below hb5, h.2.1, h.2.2⟩)
      obtain ⟨xg, xA, xc, xl⟩ := x
      dsimp only at *
      rw [← hg6] at hx5
      have HW5 := Lib.hid hw5
      have HG6 := Lib.hid hg6
      have HB5 := Lib.hid (below_below HB.out HB.out.size hb5)
      have k1 : w5.cell? ⟨g6, 1, none⟩ = some (.slice xA xl.length xc) := (cell_of_row w5 g6 1 _ _ _ hx5).trans rfl
      have HLT := Lib.hid hlt
      clear hx e1 hb5 hx5 hw5 hg6 hlt hi
      go_upto_region 5 with fail
      rw [show wr.alloc (.cells #[.int .i64 xg, .slice xA xl.length xc] 27) = w5 from HW5.out.symm, ← HG6.out]
      go_wp2_with fail
      refine (decode_l xA _ xc xl w5 rfl HXB.out.2.2 HXB.out.1 HXB.out.2.1).mono ?_
      rintro e w6 ⟨hb6, bl, cl, why, en, rfl, hvo, hMh, hMt, hMl⟩
      generalize linksD xl = M at *
      have HB6 := Lib.hid (below_below HB5.out HB5.out.size hb6)
      have HVO := Lib.hid hvo
      have HMH := Lib.hid hMh
      have HMT := Lib.hid hMt
      have HML := Lib.hid hMl
      generalize anyO 3 tx (L.take i) = c3 at *
      generalize anyO 4 tx (L.take i) = c4 at *
      clear hb6 hvo hMh hMt hMl k1 q0 q1
      go_wp2_with fail
      go_loopg [5, 6, 32] M.length (fun k s5 s6 s32 wx => ∃ j : Nat, j ≤ M.length ∧ k = M.length - j ∧ s5 = .bool (c3 || hasO 3 tx (M.take j)) ∧ s6 = .bool (c4 || hasO 4 tx (M.take j)) ∧ s32 = .int .i64 (j : Int) ∧ Below w6.heap.size w6 wx)
      case atStart => exact ⟨0, Nat.zero_le _, by omega, by simp [hasO], by simp [hasO], rfl, Below.refl _ _⟩
      case round =>
        obtain ⟨j, hj, hk, rfl, rfl, rfl, hb⟩ := hrel
        have HK2 := Lib.hid hk
        have HBX := Lib.hid hb
        clear hk hb
        have hj2 : (j : Int) ≤ 4096 := by have := HML.out; omega
        by_cases hlt2 : j < M.length
        · obtain ⟨b2, o2, rfl, e2⟩ := (own_RC (own_below HVO.out HBX.out)).parts (by rw [lv_length M HMH.out]; omega)
          have HRG := Lib.hid (lk_range HMH.out e2 j hlt2)
          have hhl := HMH.out _ (List.getElem_mem hlt2)
          have htl := HMT.out _ (List.getElem_mem hlt2)
          have U3 := Lib.hid (show hasO 3 tx (M.take (j + 1)) = (hasO 3 tx (M.take j) || recO 3 tx M[j].1) from any_take _ M j _ (List.getElem?_eq_getElem hlt2))
          have U4 := Lib.hid (show hasO 4 tx (M.take (j + 1)) = (hasO 4 tx (M.take j) || recO 4 tx M[j].1) from any_take _ M j _ (List.getElem?_eq_getElem hlt2))
          obtain ⟨d3, hd3⟩ : ∃ d3, d3 = (c3 || hasO 3 tx (M.take j)) := ⟨_, rfl⟩
          obtain ⟨d4, hd4⟩ : ∃ d4, d4 = (c4 || hasO 4 tx (M.take j)) := ⟨_, rfl⟩
          have V3 := Lib.hid (show (c3 || hasO 3 tx (M.take (j + 1))) = (d3 || recO 3 tx M[j].1) by rw [U3.out, hd3, Bool.or_assoc])
          have V4 := Lib.hid (show (c4 || hasO 4 tx (M.take (j + 1))) = (d4 || recO 4 tx M[j].1) by rw [U4.out, hd4, Bool.or_assoc])
          rw [← hd3, ← hd4]
          clear U3 U4 hd3 hd4
          generalize M[j] = x at *
          have hlkl := lk_length x hhl
          obtain ⟨lc, elc⟩ : ∃ lc, lc = lk x := ⟨_, rfl⟩
          have hfst : lc = .string (strB x.1) :: bv x.2 := elc
          rw [← elc] at hlkl HRG
          have hil : (Try.prog.info? 92).map (·.size) = some lc.length := by rw [hlkl]; exact info33
          have hone : lc.toArray.all (·.oneCell') = true := by rw [elc]; exact all_oneCell_toArray (lk_one x)
          have hj0 : (0 : Int) ≤ (j : Int) := by omega
          have hj1 : (j : Int) < (M.length : Int) := by omega
          have HLT2 := Lib.hid hlt2
          have HIL := Lib.hid hil
          have HLKL := Lib.hid hlkl
          have HONE := Lib.hid hone
          have HFST := Lib.hid hfst
          have HTL := Lib.hid htl
          clear e2 hhl htl hil hlkl hone hfst elc hlt2 hj
          go_upto_region 8 with fail
          refine wp_region_lit ?_
          refine Great.wpList_readTo rfl _ rfl (.pointer (some ⟨b2, o2 + j * 33, none⟩)) ?h1 ?_
          case h1 =>
            simp only [execOp]
            go_simp
          refine wpList_load_mid rfl 92 (.tmp 34) rfl b2 (o2 + j * 33) rfl lc _ HRG.out Try.underlying92 rfl HIL.out ?_
          obtain ⟨z, hz⟩ : ∃ z, z = wr.heap.size := ⟨_, rfl⟩
          refine Great.wpList_allocTo rfl _ rfl (.pointer (some ⟨z, 0, none⟩)) (.cells z33 92) ?h2 ?_
          case h2 => rw [HZ33.out, hz]; kernel_rfl
          refine wpList_store_row rfl 92 (.tmp 13) (.tmp 35) rfl z lc.toArray rfl rfl 92 z33 (by rw [hz]; exact heap_alloc_new wr _) (by rw [List.size_toArray]; exact HIL.out) (by rw [HZ33.out, List.size_toArray, List.size_toArray, HLKL.out]; rfl) HONE.out ?_
          refine wpList_nil ?_
          rename_i hK
          refine hK _ _ ?_
          clear hK
          obtain ⟨w7, hw7⟩ : ∃ w7, w7 = (wr.alloc (.cells z33 92)).setRow z lc.toArray := ⟨_, rfl⟩
          rw [← hw7]
          have hz7 : w7.heap[z]? = some (.cells lc.toArray 92) := by rw [hw7, hz]; exact setRow_heap _ _ _ _ _ _ (heap_alloc_new wr _)
          have cz : w7.cell? ⟨z, 0, none⟩ = some (.string (strB x.1)) := by
            rw [cell_of_row w7 z 0 _ _ _ hz7, HFST.out]
            rfl
          have HB7 := Lib.hid (below_below HBX.out HBX.out.size (show Below wr.heap.size wr w7 by rw [hw7]; exact below_setRow ((Below.refl _ _).alloc (Nat.le_refl _) _) _ _ (by omega)))
          clear hw7 hz7 hz
          go_wp2_with fail
          refine (read_any x.1 w7 (by have := HTL.out; omega)).mono ?_
          rintro e w8 ⟨hb8, hres⟩
          have HB8 := Lib.hid (below_below HB7.out HB7.out.size hb8)
          clear hb8 cz
          rcases hres with ⟨hrn, rfl⟩ | ⟨r, Ar, cr, hrs, rfl, hro⟩
          · unfold recZ
            have R3 := Lib.hid (show recO 3 tx x.1 = false by unfold recO; rw [hrn])
            have R4 := Lib.hid (show recO 4 tx x.1 = false by unfold recO; rw [hrn])
            clear hrn
            go_wp2_with fail
            go_roundg (M.length - (j + 1))
            case measure => have := HK2.out; have := HLT2.out; omega
            case rel =>
              refine ⟨j + 1, HLT2.out, rfl, ?_, ?_, by go_num, HB8.out.alloc (by have := HB8.out.size; omega) _⟩
              · rw [V3.out, R3.out, Bool.or_false]
              · rw [V4.out, R4.out, Bool.or_false]
          · obtain ⟨rk, rt, rg, rb⟩ := r
            have R3 := Lib.hid (show recO 3 tx x.1 = (decide (rt = tx) && (rk == 3)) by unfold recO; rw [hrs]; rfl)
            have R4 := Lib.hid (show recO 4 tx x.1 = (decide (rt = tx) && (rk == 4)) by unfold recO; rw [hrs]; rfl)
            unfold Rp.m Rm.cells
            dsimp only
            obtain ⟨zr, hzr⟩ : ∃ zr, zr = strB rt := ⟨_, rfl⟩
            obtain ⟨zb, hzb⟩ : ∃ zb, zb = strB rb := ⟨_, rfl⟩
            rw [← hzr, ← hzb]
            have HRO := Lib.hid hro
            have HZR := Lib.hid hzr
            clear hrs hro hzr hzb
            by_cases ht : rt = tx
            · have e3 := R3.out
              have e4 := R4.out
              rw [decide_eq_true ht, Bool.true_and] at e3 e4
              obtain rfl : zr = zt := by rw [HZR.out, HZT.out, ht]
              have E3 := Lib.hid e3
              have E4 := Lib.hid e4
              clear e3 e4 ht
              cases d3 <;> cases d4
              all_goals
                go_wp2_with fail
                go_roundg (M.length - (j + 1))
                case measure => have := HK2.out; have := HLT2.out; omega
                case rel =>
                  refine ⟨j + 1, HLT2.out, rfl, ?_, ?_, by go_num, HB8.out.alloc (by have := HB8.out.size; omega) _⟩
                  · rw [V3.out, E3.out]; simp
                  · rw [V4.out, E4.out]; simp
            · have e3 := R3.out
              have e4 := R4.out
              rw [decide_eq_false ht, Bool.false_and] at e3 e4
              have hzf : (zr.toList == zt.toList) = false := by
                rw [HZR.out, HZT.out, ByteArray.toList_eq, ByteArray.toList_eq, strB_toList, strB_toList]
                simpa using ht
              have E3 := Lib.hid e3
              have E4 := Lib.hid e4
              clear e3 e4 ht
              go_wp2_with fail
              go_roundg (M.length - (j + 1))
              case measure => have := HK2.out; have := HLT2.out; omega
              case rel =>
                refine ⟨j + 1, HLT2.out, rfl, ?_, ?_, by go_num, HB8.out.alloc (by have := HB8.out.size; omega) _⟩
                · rw [V3.out, E3.out, Bool.or_false]
                · rw [V4.out, E4.out, Bool.or_false]
        · obtain rfl : j = M.length := by omega
          rw [List.take_length]
          clear hlt2 hj
          go_wp2_with fail
          go_roundg (L.length - (i + 1))
          case measure => have := HK.out; have := HLT.out; omega
          case rel => have := HLT.out; have := HN.out; exact ⟨i + 1, HLT.out, rfl, by rw [T3.out], by rw [T4.out], by go_num, below_below HB6.out HB6.out.size HBX.out⟩
    · obtain rfl : i = L.length := by omega
      rw [List.take_length]
      obtain ⟨c3, h3⟩ : ∃ c3, c3 = anyO 3 tx L := ⟨_, rfl⟩
      obtain ⟨c4, h4⟩ : ∃ c4, c4 = anyO 4 tx L := ⟨_, rfl⟩
      rw [← h3, ← h4]
      have H3 := Lib.hid h3
      have H4 := Lib.hid h4
      have HO := Lib.hid (show outS tx L = (if c3 = true then [1] else []) ++ (if c4 = true then [2] else []) by rw [h3, h4]; rfl)
      clear hlt hi h3 h4
      cases c3 <;> cases c4
      · go_wp2_with fail
        go_ret
        rw [HO.out]
        exact ⟨none, 0, rfl, HB.out, fun h => absurd h (by simp)⟩
      · go_wp2_with (at_builtin; refine append_any rfl _ _ 22 rfl wr.heap.size 3 (.int .i64 0) 1 8 Try.underlying22 infoI rfl (by omega) (by omega) _ 0 [] rfl (World.ownsRow_nil _ _ _ _) _ 1 _ [.int .i64 2] rfl rfl (RC_newL _ [.int .i64 2] 3) (by intro u hu; simp at hu; rw [hu]; rfl) (by decide) (by simp) ?_)
        intro v6 w6 ho6 hg6 hat6
        obtain ⟨A6, c6, rfl, hc6⟩ := own_slice ho6
        have hb6 : Below w.heap.size w w6 := (HB.out.alloc HB.out.size _).grown hg6 (by have := HB.out.size; simp; omega) (fun k hk => by cases hk)
        have HO6 := Lib.hid ho6
        have HB6 := Lib.hid hb6
        clear ho6 hg6 hat6 hb6 hc6
        go_wp2_with fail
        go_ret
        rw [HO.out]
        exact ⟨A6, c6, rfl, HB6.out, own_RC HO6.out⟩
      · go_wp2_with (at_builtin; refine append_any rfl _ _ 22 rfl wr.heap.size 3 (.int .i64 0) 1 8 Try.underlying22 infoI rfl (by omega) (by omega) _ 0 [] rfl (World.ownsRow_nil _ _ _ _) _ 1 _ [.int .i64 1] rfl rfl (RC_newL _ [.int .i64 1] 3) (by intro u hu; simp at hu; rw [hu]; rfl) (by decide) (by simp) ?_)
        intro v6 w6 ho6 hg6 hat6
        obtain ⟨A6, c6, rfl, hc6⟩ := own_slice ho6
        have hb6 : Below w.heap.size w w6 := (HB.out.alloc HB.out.size _).grown hg6 (by have := HB.out.size; simp; omega) (fun k hk => by cases hk)
        have HO6 := Lib.hid ho6
        have HB6 := Lib.hid hb6
        clear ho6 hg6 hat6 hb6 hc6
        go_wp2_with fail
        go_ret
        rw [HO.out]
        exact ⟨A6, c6, rfl, HB6.out, own_RC HO6.out⟩
      · go_wp2_with (at_builtin; refine append_any rfl _ _ 22 rfl wr.heap.size 3 (.int .i64 0) 1 8 Try.underlying22 infoI rfl (by omega) (by omega) _ 0 [] rfl (World.ownsRow_nil _ _ _ _) _ 1 _ [.int .i64 1] rfl rfl (RC_newL _ [.int .i64 1] 3) (by intro u hu; simp at hu; rw [hu]; rfl) (by decide) (by simp) ?_)
        intro v6 w6 ho6 hg6 hat6
        obtain ⟨A6, c6, rfl, hc6⟩ := own_slice ho6
        have hb6 : Below w.heap.size w w6 := (HB.out.alloc HB.out.size _).grown hg6 (by have := HB.out.size; simp; omega) (fun k hk => by cases hk)
        have HO6 := Lib.hid ho6
        have HB6 := Lib.hid hb6
        have HS6 := Lib.hid (show wr.heap.size ≤ w6.heap.size by have := hg6.size; simp at this; omega)
        clear ho6 hg6 hat6 hb6 hc6
        go_wp2_with (at_builtin; refine append_any rfl _ _ 22 rfl wr.heap.size 3 (.int .i64 0) 1 8 Try.underlying22 infoI rfl (by omega) (by omega) _ 1 [.int .i64 1] rfl (HO6.out.alloc _) _ 1 _ [.int .i64 2] rfl rfl (RC_newL _ [.int .i64 2] 3) (by intro u hu; simp at hu; rw [hu]; rfl) (by decide) (by have := HS6.out; simp; omega) ?_)
        intro v7 w7 ho7 hg7 hat7
        obtain ⟨A7, c7, rfl, hc7⟩ := own_slice ho7
        have hb7 : Below w.heap.size w w7 := (HB6.out.alloc HB6.out.size _).grown hg7 (by have := HB6.out.size; simp; omega) (fun k hk => by have := (World.ownsRow.lt HO6.out k hk).1; have := HB.out.size; omega)
        have HO7 := Lib.hid ho7
        have HB7 := Lib.hid hb7
        clear ho7 hg7 hat7 hb7 hc7
        go_wp2_with fail
        go_ret
        rw [HO.out]
        exact ⟨A7, c7, rfl, HB7.out, own_RC HO7.out⟩
end Go.Proofs.Ytjakhemolecbnaa
end

/-
  When claims that are read whole have no fault (plain Lean).
-/
section
set_option linter.unusedVariables false
set_option linter.unusedSimpArgs false
namespace Go.Proofs.Ytjakhemolecbnaa
open Go.RowKit

/-- What is asked of a claim alone. -/
def aloneP (c : Cp) : Prop := ∀ a m, c.recs[a]? = some m → twiceP (c.recs.take a) m = false ∧ bareP (c.recs.take a) m = false ∧ (m.kind = 3 → c.group ∈ m.groups)
/-- What is asked of the records of two claims. -/
def crossP (c d : Cp) : Prop := ∀ m ∈ c.recs, (m.kind = 3 → d.recs.any (ofPp 4 m.tx) = false ∧ d.recs.any (strPp m.tx m.groups) = false) ∧ (m.kind = 4 → d.recs.any (ofPp 3 m.tx) = false)
def prefP (c d : Cp) : Prop := c.group = d.group → c.M.take (min c.M.length d.M.length) = d.M.take (min c.M.length d.M.length)
structure PairP (c d : Cp) : Prop where
  p : prefP c d
  x : crossP c d
  y : crossP d c
structure OkC (cs : List Cp) : Prop where
  alone : ∀ c ∈ cs, aloneP c
  pair : cs.Pairwise PairP
theorem PairP.symm {c d : Cp} (h : PairP c d) : PairP d c := ⟨fun e => by rw [Nat.min_comm]; exact (h.p e.symm).symm, h.y, h.x⟩

theorem one_nil {b : Bool} {f : Ft} : one b f = [] ↔ b = false := by cases b <;> simp [one]
theorem others_nil {cs : List Cp} (hw : ∀ c ∈ cs, c.whole = true) (n : Nat) (P : Rp → Bool) : othersP cs n P = false ↔ ∀ j d, cs[j]? = some d → j ≠ n → d.recs.any P = false := by
  unfold othersP
  rw [List.any_eq_false]
  constructor
  · intro h j d hj hn
    have h1 := h j (List.mem_range.2 (List.getElem?_eq_some_iff.1 hj).1)
    unfold tstP at h1
    rw [hj] at h1
    have hwd := hw d (List.mem_of_getElem? hj)
    simp only [hwd, Bool.and_true] at h1
    have hne : decide ((j : Int) ≠ (n : Int)) = true := by simp; omega
    rw [hne, Bool.true_and] at h1
    simpa using h1
  · intro h j hj
    unfold tstP
    cases hd : cs[j]? with
    | none => simp
    | some d =>
      by_cases hn : j = n
      · subst hn
        simp
      · simp only [h j d hd hn]
        simp
theorem faults_iff (cs : List Cp) (hlw : ∀ c ∈ cs, c.lt = true ∧ c.whole = true) : faults cs = [] ↔ ∀ i c, cs[i]? = some c → (∀ j d, j < i → cs[j]? = some d → prefP d c) ∧ ∀ a m, c.recs[a]? = some m → ∀ k, k < 4 → brkP cs i c a m k = false := by
  unfold faults
  rw [List.flatMap_eq_nil_iff]
  have hcl : ∀ i c, cs[i]? = some c → (clF cs i = [] ↔ (∀ j d, j < i → cs[j]? = some d → prefP d c) ∧ ∀ a m, c.recs[a]? = some m → ∀ k, k < 4 → brkP cs i c a m k = false) := by
    intro i c hc
    obtain ⟨h1, h2⟩ := hlw c (List.mem_of_getElem? hc)
    unfold clF
    rw [hc]
    dsimp only
    rw [if_neg (by simp [h1]), if_neg (by simp [h2]), List.append_eq_nil_iff, List.flatMap_eq_nil_iff, List.flatMap_eq_nil_iff]
    refine and_congr ⟨fun h j d hj hd => ?_, fun h j hj => ?_⟩ ⟨fun h a m hm k hk => ?_, fun h a ha => ?_⟩
    · have h3 := h j (List.mem_range.2 hj)
      unfold pfxF at h3
      rw [hd] at h3
      dsimp only at h3
      rw [one_nil, (hlw d (List.mem_of_getElem? hd)).2] at h3
      intro e
      simpa [e] using h3
    · unfold pfxF
      cases hd : cs[j]? with
      | none => rfl
      | some d =>
        dsimp only
        rw [one_nil]
        have h3 := h j d (List.mem_range.1 hj) hd
        by_cases e : d.group = c.group
        · have h4 := h3 e
          simp [h4]
        · simp [e]
    · have h3 := h a (List.mem_range.2 (List.getElem?_eq_some_iff.1 hm).1)
      unfold recF at h3
      rw [hm] at h3
      dsimp only at h3
      rw [List.flatMap_eq_nil_iff] at h3
      exact one_nil.1 (h3 k (List.mem_range.2 hk))
    · unfold recF
      cases hm : c.recs[a]? with
      | none => rfl
      | some m =>
        dsimp only
        rw [List.flatMap_eq_nil_iff]
        exact fun k hk => one_nil.2 (h a m hm k (List.mem_range.1 hk))
  constructor
  · intro h i c hc
    exact (hcl i c hc).1 (h i (List.mem_range.2 (List.getElem?_eq_some_iff.1 hc).1))
  · intro h i hi
    have hi' := List.mem_range.1 hi
    exact (hcl i _ (List.getElem?_eq_getElem hi')).2 (h i _ (List.getElem?_eq_getElem hi'))

theorem any_ne {p : Rp → Bool} {l : List Rp} (h : l.any p = false) {r : Rp} (hr : r ∈ l) : p r = false := by
  have := List.any_eq_false.1 h r hr
  simpa using this
theorem faults_ok (cs : List Cp) (hlw : ∀ c ∈ cs, c.lt = true ∧ c.whole = true) : faults cs = [] ↔ OkC cs := by
  have hw : ∀ c ∈ cs, c.whole = true := fun c hc => (hlw c hc).2
  rw [faults_iff cs hlw]
  constructor
  · intro h
    have hcross : ∀ (i : Nat) (c : Cp) (j : Nat) (d : Cp), cs[i]? = some c → cs[j]? = some d → j ≠ i → crossP c d := by
      intro i c j d hc hd hn m hm
      obtain ⟨a, ha⟩ := List.mem_iff_getElem?.1 hm
      have hb := (h i c hc).2 a m ha
      have h1 : bothP cs i m = false := hb 1 (by omega)
      have h3 : strangeP cs i c.group m = false := hb 3 (by omega)
      unfold bothP at h1
      unfold strangeP at h3
      refine ⟨fun hk => ?_, fun hk => ?_⟩
      · simp only [hk, decide_true, Bool.true_and, Bool.or_eq_false_iff] at h1 h3
        exact ⟨(others_nil hw i _).1 h1.1 j d hd hn, (others_nil hw i _).1 h3.2 j d hd hn⟩
      · simp only [hk, decide_true, Bool.true_and, Bool.or_eq_false_iff] at h1
        exact (others_nil hw i _).1 h1.2 j d hd hn
    refine ⟨fun c hc => ?_, ?_⟩
    · obtain ⟨i, hi⟩ := List.mem_iff_getElem?.1 hc
      intro a m hm
      have hb := (h i c hi).2 a m hm
      refine ⟨hb 0 (by omega), hb 2 (by omega), fun hk => ?_⟩
      have h3 : strangeP cs i c.group m = false := hb 3 (by omega)
      unfold strangeP at h3
      simp only [hk, decide_true, Bool.true_and, Bool.or_eq_false_iff] at h3
      simpa using h3.1
    · rw [List.pairwise_iff_getElem]
      intro i j hi hj hij
      have ei := List.getElem?_eq_getElem hi
      have ej := List.getElem?_eq_getElem hj
      exact ⟨(h j _ ej).1 i _ hij ei, hcross i _ j _ ei ej (by omega), hcross j _ i _ ej ei (by omega)⟩
  · intro h i c hc
    have hp := List.pairwise_iff_getElem.1 h.pair
    have hpair : ∀ j d, cs[j]? = some d → j ≠ i → PairP c d := by
      intro j d hd hn
      obtain ⟨hi, rfl⟩ := List.getElem?_eq_some_iff.1 hc
      obtain ⟨hj, rfl⟩ := List.getElem?_eq_some_iff.1 hd
      by_cases hij : i < j
      · exact hp i j hi hj hij
      · exact (hp j i hj hi (by omega)).symm
    refine ⟨fun j d hj hd => (hpair j d hd (by omega)).symm.p, fun a m hm k hk => ?_⟩
    obtain ⟨h0, h2, h3⟩ := h.alone c (List.mem_of_getElem? hc) a m hm
    have hx : ∀ (j : Nat) (d : Cp), cs[j]? = some d → j ≠ i → (m.kind = 3 → d.recs.any (ofPp 4 m.tx) = false ∧ d.recs.any (strPp m.tx m.groups) = false) ∧ (m.kind = 4 → d.recs.any (ofPp 3 m.tx) = false) := fun j d hd hn => (hpair j d hd hn).x m (List.mem_of_getElem? hm)
    match k, hk with
    | 0, _ => exact h0
    | 1, _ =>
      show bothP cs i m = false
      unfold bothP
      rw [Bool.or_eq_false_iff]
      constructor
      · by_cases hk : m.kind = 3
        · rw [(others_nil hw i _).2 fun j d hd hn => ((hx j d hd hn).1 hk).1, Bool.and_false]
        · simp [hk]
      · by_cases hk : m.kind = 4
        · rw [(others_nil hw i _).2 fun j d hd hn => (hx j d hd hn).2 hk, Bool.and_false]
        · simp [hk]
    | 2, _ => exact h2
    | 3, _ =>
      show strangeP cs i c.group m = false
      unfold strangeP
      by_cases hk : m.kind = 3
      · rw [(others_nil hw i _).2 fun j d hd hn => ((hx j d hd hn).1 hk).2]
        simp [h3 hk]
      · simp [hk]

/-- A claim that is alone in order has no two records that are at odds. -/
theorem self_cross {c : Cp} (h : aloneP c) : crossP c c := by
  have two : ∀ m ∈ c.recs, ∀ r ∈ c.recs, m.kind = 3 → r.tx = m.tx → r.kind = 3 ∨ r.kind = 4 → r = m := by
    intro m hm r hr hk ht hk2
    obtain ⟨a, ha⟩ := List.mem_iff_getElem?.1 hm
    obtain ⟨b, hb⟩ := List.mem_iff_getElem?.1 hr
    by_cases hab : a = b
    · subst hab
      rw [ha] at hb
      exact (Option.some.inj hb).symm
    · exfalso
      by_cases hlt : a < b
      · have h1 := (h b r hb).1
        have hin : m ∈ c.recs.take b := List.mem_iff_getElem?.2 ⟨a, by rw [List.getElem?_take, if_pos hlt]; exact ha⟩
        have h3 : (c.recs.take b).any (ofPp 3 r.tx) = true := List.any_eq_true.2 ⟨m, hin, by unfold ofPp; simp [hk, ht]⟩
        unfold twiceP at h1
        rw [h3] at h1
        rcases hk2 with e | e <;> simp [e] at h1
      · have h1 := (h a m ha).1
        have hin : r ∈ c.recs.take a := List.mem_iff_getElem?.2 ⟨b, by rw [List.getElem?_take, if_pos (by omega)]; exact hb⟩
        unfold twiceP at h1
        rcases hk2 with e | e
        · have h3 : (c.recs.take a).any (ofPp 3 m.tx) = true := List.any_eq_true.2 ⟨r, hin, by unfold ofPp; simp [e, ht]⟩
          simp [h3, hk] at h1
        · have h3 : (c.recs.take a).any (ofPp 4 m.tx) = true := List.any_eq_true.2 ⟨r, hin, by unfold ofPp; simp [e, ht]⟩
          simp [h3, hk] at h1
  intro m hm
  refine ⟨fun hk => ⟨?_, ?_⟩, fun hk => ?_⟩
  · refine List.any_eq_false.2 fun r hr hp => ?_
    unfold ofPp at hp
    have hp := of_decide_eq_true hp
    have := two m hm r hr hk hp.2 (.inr hp.1)
    rw [this, hk] at hp
    exact absurd hp.1 (by decide)
  · refine List.any_eq_false.2 fun r hr hp => ?_
    unfold strPp at hp
    have hp := of_decide_eq_true hp
    have := two m hm r hr hk hp.2.1 (.inl hp.1)
    rw [this] at hp
    exact hp.2.2 rfl
  · refine List.any_eq_false.2 fun r hr hp => ?_
    unfold ofPp at hp
    have hp := of_decide_eq_true hp
    have := two r hr m hm hp.1 hp.2.symm (.inr hk)
    rw [← this, hk] at hp
    exact absurd hp.1 (by decide)
/-- A claim with these records, read whole. -/
def clP (g : Int) (rs : List Rp) : Cp := ⟨g, mkOf (rs.map txtOf), true, rs, true, 0⟩
theorem mkOf_cut (F : List (List UInt8)) (k : Nat) : (mkOf F).take k = mkOf (F.take k) := by
  unfold mkOf
  rw [← List.map_take, List.take_range, List.length_take]
  refine List.map_congr_left fun i hi => ?_
  have hi := List.mem_range.1 hi
  rw [List.getD_eq_getElem?_getD, List.getD_eq_getElem?_getD, List.getElem?_take, if_pos (by omega), List.take_take, Nat.min_eq_left (by omega)]
theorem alone_take {g : Int} {A : List Rp} (h : aloneP (clP g A)) (i : Nat) : aloneP (clP g (A.take i)) := by
  intro a m hm
  have hm' : (A.take i)[a]? = some m := hm
  rw [List.getElem?_take] at hm'
  split at hm'
  · rename_i ha
    have h1 := h a m hm'
    have e : (clP g (A.take i)).recs.take a = (clP g A).recs.take a := by
      show (A.take i).take a = A.take a
      rw [List.take_take, Nat.min_eq_left (by omega)]
    rw [e]
    exact h1
  · cases hm'
theorem any_sub {p : Rp → Bool} {l : List Rp} (h : l.any p = false) (i : Nat) : (l.take i).any p = false :=
  List.any_eq_false.2 fun r hr => List.any_eq_false.1 h r (List.mem_of_mem_take hr)
theorem cross_left {c : Cp} {g : Int} {A : List Rp} (h : crossP (clP g A) c) (i : Nat) : crossP (clP g (A.take i)) c := fun m hm => h m (List.mem_of_mem_take hm)
theorem cross_right {c : Cp} {g : Int} {A : List Rp} (h : crossP c (clP g A)) (i : Nat) : crossP c (clP g (A.take i)) := fun m hm =>
  ⟨fun hk => ⟨any_sub ((h m hm).1 hk).1 i, any_sub ((h m hm).1 hk).2 i⟩, fun hk => any_sub ((h m hm).2 hk) i⟩
theorem ok_part {A B : List Rp} (h : OkC [clP 0 A, clP 1 B]) (i : Nat) : OkC [clP 0 (A.take i), clP 1 B, clP 0 A] := by
  have hA := h.alone (clP 0 A) (by simp)
  have hB := h.alone (clP 1 B) (by simp)
  have hAB : PairP (clP 0 A) (clP 1 B) := by have := h.pair; simp at this; exact this
  have hs := self_cross hA
  constructor
  · intro c hc
    simp only [List.mem_cons, List.not_mem_nil, or_false] at hc
    rcases hc with rfl | rfl | rfl
    · exact alone_take hA i
    · exact hB
    · exact hA
  · rw [List.pairwise_cons, List.pairwise_cons]
    refine ⟨fun d hd => ?_, fun d hd => ?_, List.pairwise_singleton _ _⟩
    · simp only [List.mem_cons, List.not_mem_nil, or_false] at hd
      rcases hd with rfl | rfl
      · exact ⟨fun e => absurd (show (0 : Int) = 1 from e) (by decide), cross_left hAB.x i, cross_right hAB.y i⟩
      · refine ⟨fun _ => ?_, cross_left hs i, cross_right hs i⟩
        show (mkOf ((A.take i).map txtOf)).take (min (mkOf ((A.take i).map txtOf)).length (mkOf (A.map txtOf)).length) = (mkOf (A.map txtOf)).take (min (mkOf ((A.take i).map txtOf)).length (mkOf (A.map txtOf)).length)
        rw [List.map_take, ← mkOf_cut, List.take_take, List.length_take]
        congr 1
        omega
    · rw [List.mem_singleton.1 hd]
      exact hAB.symm

/-- The outcomes that records tell. -/
theorem has_recs (k : Int) (tx : List UInt8) : ∀ (M : Lks) (rs : List Rp), recsOf M = (rs, true) → hasO k tx M = rs.any (ofPp k tx)
  | [], rs, h => by
    rw [recsOf] at h
    cases h
    rfl
  | x :: M, rs, h => by
    rw [recsOf_cons] at h
    cases hr : readS x.1 with
    | none => rw [hr] at h; simp [recStep] at h
    | some r =>
      rw [hr, recStep] at h
      obtain ⟨rs', hb⟩ : ∃ rs', recsOf M = (rs', true) := ⟨(recsOf M).1, Prod.ext rfl (Prod.ext_iff.1 h).2⟩
      have ih := has_recs k tx M rs' hb
      rw [hb] at h
      have e : rs = r :: rs' := (Prod.ext_iff.1 h).1.symm
      rw [e]
      show (recO k tx x.1 || hasO k tx M) = (ofPp k tx r || rs'.any (ofPp k tx))
      rw [ih]
      congr 1
      unfold recO ofPp
      rw [hr]
      simp [Bool.and_comm]
def anyC (k : Int) (tx : List UInt8) (cs : List Cp) : Bool := cs.any fun c => c.recs.any (ofPp k tx)
theorem anyO_p (k : Int) (tx : List UInt8) : ∀ (L : List Cl), (∀ c ∈ L.map Cl.p, c.lt = true ∧ c.whole = true) → anyO k tx L = anyC k tx (L.map Cl.p)
  | [], _ => rfl
  | x :: L, h => by
    have ih := anyO_p k tx L (fun c hc => h c (by simp at hc ⊢; exact .inr hc))
    show (hasO k tx (linksD x.l) || anyO k tx L) = (x.p.recs.any (ofPp k tx) || anyC k tx (L.map Cl.p))
    rw [ih]
    congr 1
    have hx := h x.p (by simp)
    unfold Cl.p claimP at hx ⊢
    unfold linksD
    cases hd : decS x.l with
    | inl y => rw [hd] at hx; exact absurd hx.1 (by simp)
    | inr M =>
      rw [hd] at hx
      exact has_recs k tx M _ (Prod.ext rfl hx.2)
def outC (tx : List UInt8) (cs : List Cp) : List Int := (if anyC 3 tx cs = true then [1] else []) ++ (if anyC 4 tx cs = true then [2] else [])
theorem out_p (tx : List UInt8) (L : List Cl) (h : ∀ c ∈ L.map Cl.p, c.lt = true ∧ c.whole = true) : outS tx L = outC tx (L.map Cl.p) := by
  unfold outS outC
  rw [anyO_p 3 tx L h, anyO_p 4 tx L h]
theorem one_out {cs : List Cp} (h : OkC cs) (tx : List UInt8) : (outC tx cs).length ≤ 1 := by
  have key : ¬ (anyC 3 tx cs = true ∧ anyC 4 tx cs = true) := by
    rintro ⟨h3, h4⟩
    obtain ⟨c, hc, h3⟩ := List.any_eq_true.1 h3
    obtain ⟨m, hm, h3⟩ := List.any_eq_true.1 h3
    obtain ⟨d, hd, h4⟩ := List.any_eq_true.1 h4
    obtain ⟨r, hr, h4⟩ := List.any_eq_true.1 h4
    have hx : crossP c d := by
      obtain ⟨i, hi⟩ := List.mem_iff_getElem?.1 hc
      obtain ⟨j, hj⟩ := List.mem_iff_getElem?.1 hd
      by_cases hij : i = j
      · subst hij
        rw [hi] at hj
        cases hj
        exact self_cross (h.alone c hc)
      · have hp := List.pairwise_iff_getElem.1 h.pair
        obtain ⟨hi', rfl⟩ := List.getElem?_eq_some_iff.1 hi
        obtain ⟨hj', rfl⟩ := List.getElem?_eq_some_iff.1 hj
        by_cases hlt : i < j
        · exact (hp i j hi' hj' hlt).x
        · exact (hp j i hj' hi' (by omega)).y
    unfold ofPp at h3 h4
    have h3 := of_decide_eq_true h3
    have h4 := of_decide_eq_true h4
    have := List.any_eq_false.1 ((hx m hm).1 h3.1).1 r hr
    unfold ofPp at this
    exact this (decide_eq_true ⟨h4.1, h4.2.trans h3.2.symm⟩)
  unfold outC
  cases h3 : anyC 3 tx cs <;> cases h4 : anyC 4 tx cs
  · simp
  · simp
  · simp
  · exact absurd ⟨h3, h4⟩ key
theorem any_turn (k : Int) (tx : List UInt8) (X Y : List Cp) : anyC k tx (X ++ Y) = anyC k tx (Y ++ X) := by
  unfold anyC
  rw [List.any_append, List.any_append, Bool.or_comm]
theorem out_turn (tx : List UInt8) (X Y : List Cp) : outC tx (X ++ Y) = outC tx (Y ++ X) := by
  unfold outC
  rw [any_turn 3, any_turn 4]
theorem ok_turn {X Y : List Cp} (h : OkC (X ++ Y)) : OkC (Y ++ X) := by
  constructor
  · intro c hc
    refine h.alone c ?_
    simp only [List.mem_append] at hc ⊢
    exact hc.symm
  · have hp := h.pair
    rw [List.pairwise_append] at hp ⊢
    exact ⟨hp.2.1, hp.1, fun a ha b hb => (hp.2.2 b hb a ha).symm⟩
theorem ver_turn (X Y : List Cp) (h : ∀ c ∈ X ++ Y, c.lt = true ∧ c.whole = true) : ((verP (X ++ Y)).1 == 0) = ((verP (Y ++ X)).1 == 0) := by
  have h' : ∀ c ∈ Y ++ X, c.lt = true ∧ c.whole = true := fun c hc => h c (by simp only [List.mem_append] at hc ⊢; exact hc.symm)
  have e : (verP (X ++ Y)).1 = 0 ↔ (verP (Y ++ X)).1 = 0 := by
    rw [verP_ok, verP_ok, faults_ok _ h, faults_ok _ h']
    exact ⟨ok_turn, ok_turn⟩
  by_cases hz : (verP (X ++ Y)).1 = 0
  · rw [hz, e.1 hz]
  · have hz' : ¬ (verP (Y ++ X)).1 = 0 := fun h => hz (e.2 h)
    rw [beq_eq_false_iff_ne.2 hz, beq_eq_false_iff_ne.2 hz']
/-- The rules that claims of unlike groups may break. -/
theorem ver_rule (A B : List Rp) (h : (verP [clP 0 A, clP 1 B]).1 ≠ 0) : 4 ≤ (verP [clP 0 A, clP 1 B]).1 ∧ (verP [clP 0 A, clP 1 B]).1 ≤ 7 := by
  have hf : faults [clP 0 A, clP 1 B] ≠ [] := fun e => h ((verP_ok _).2 e)
  have hm := fold_some _ hf
  have hm' : verP [clP 0 A, clP 1 B] ∈ faults [clP 0 A, clP 1 B] := hm
  refine ⟨?_, (faults_pos _ _ hm').2⟩
  obtain ⟨f, hff⟩ : ∃ f, f = verP [clP 0 A, clP 1 B] := ⟨_, rfl⟩
  rw [← hff] at hm' ⊢
  unfold faults at hm'
  obtain ⟨i, hi, hm'⟩ := List.mem_flatMap.1 hm'
  have hrec : ∀ (c : Cp) (i : Nat), c.lt = true → c.whole = true → [clP 0 A, clP 1 B][i]? = some c → (∀ j, j < i → pfxF [clP 0 A, clP 1 B] c i j = []) → f ∈ clF [clP 0 A, clP 1 B] i → 4 ≤ f.1 := by
    intro c i h1 h2 hc hp hf
    unfold clF at hf
    rw [hc] at hf
    dsimp only at hf
    rw [if_neg (by simp [h1]), if_neg (by simp [h2]), List.mem_append] at hf
    rcases hf with hf | hf
    · obtain ⟨j, hj, hf⟩ := List.mem_flatMap.1 hf
      rw [hp j (List.mem_range.1 hj)] at hf
      cases hf
    · obtain ⟨a, ha, hf⟩ := List.mem_flatMap.1 hf
      unfold recF at hf
      split at hf
      · obtain ⟨k, hk, hf⟩ := List.mem_flatMap.1 hf
        unfold one at hf
        split at hf
        · rw [List.mem_singleton.1 hf]
          show 4 ≤ 4 + (k : Int)
          omega
        · cases hf
      · cases hf
  have hi := List.mem_range.1 hi
  simp only [List.length_cons, List.length_nil] at hi
  obtain rfl | rfl : i = 0 ∨ i = 1 := by omega
  · exact hrec (clP 0 A) 0 rfl rfl rfl (fun j hj => by omega) hm'
  · refine hrec (clP 1 B) 1 rfl rfl rfl (fun j hj => ?_) hm'
    obtain rfl : j = 0 := by omega
    rfl
end Go.Proofs.Ytjakhemolecbnaa
end
