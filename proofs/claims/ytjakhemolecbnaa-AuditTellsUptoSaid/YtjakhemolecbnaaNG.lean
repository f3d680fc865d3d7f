/-
  The texts TextG, Claim, Pure20, Known20 of this proof in one (what is used of them): what each proves is said at its head. No conditions beyond those that each theorem says.
-/
import Derived.Test.YtjakhemolecbnaaNE2
import Derived.Test.YtjakhemolecbnaaND3
import Derived.Test.YtjakhemolecbnaaNC
import Derived.Test.YtjakhemolecbnaaNE4
import Derived.Test.YtjakhemolecbnaaND2
import Derived.Test.YtjakhemolecbnaaND4
import Derived.Test.YtjakhemolecbnaaNF
import Derived.Test.YtjakhemolecbnaaNF3

/-
  The walks of a record's text: the reference's, and the program's.
-/
section
set_option linter.unusedVariables false
set_option linter.unusedSimpArgs false
namespace Go.Proofs.Ytjakhemolecbnaa
open Go.RowKit

/-- The lowest byte of a number. -/
def b8 (x : Int) : UInt8 := UInt8.ofNat (x % 256).toNat
theorem un8_b8 (x : Int) : un8 (b8 x) = x % 256 := by
  unfold un8 b8
  rw [UInt8.toNat_ofNat']
  omega
def gb8 (l : List Int) : List UInt8 := l.map b8
/-- A record's text. -/
def txtOf (r : Rp) : List UInt8 := [b8 r.kind] ++ be4n r.tx.length ++ r.tx ++ [b8 (r.groups.length : Int)] ++ gb8 r.groups ++ be4n r.body.length ++ r.body

set_option maxRecDepth 100000 in
set_option maxHeartbeats 4000000 in
theorem refByte_any (A : Option Addr) (n c : Nat) (b : List UInt8) (x : Int) (w : World) (hl : b.length = n) (hb : b.length ≤ 100000000) (hr : RB w A b) :
    Calls Try.prog 44 #[.slice A n c, .int .i64 x] w fun e w' => ∃ v, e = .returned v ∧ w'.ownsRow w.heap.size 5 1 v (b.length + 1) (bv (b ++ [b8 x])) ∧ Below w.heap.size w w' := by
  subst hl
  have HR := Lib.hid hr
  clear hr
  have hb0 : Below w.heap.size w (w.alloc (.cells #[] 5)) := (Below.refl _ _).alloc (Nat.le_refl _) _
  have E0 := Lib.hid (show (w.alloc (.cells #[] 5)).ownsRow w.heap.size 5 1 (.slice (some ⟨w.heap.size, 0, none⟩) 0 0) 0 [] from
    ⟨rfl, .inr ⟨_, 0, #[], rfl, Nat.le_refl _, heap_alloc_new w _, Nat.le_refl _, by simp [maxLen], rfl, rfl⟩⟩)
  have HB0 := Lib.hid hb0
  clear hb0
  go_enter Try.func44, Try.ntmps44
  go_wp2_with (at_builtin; refine append_any rfl (.tmp 5) (.tmp 6) 25 rfl w.heap.size 5 (.int .u8 0) 1 1 Try.underlying25 info8 rfl (by omega) (by omega) (.slice (some ⟨w.heap.size, 0, none⟩) 0 0) 0 [] rfl E0.out A b.length c (bv b) rfl (by rw [bv_length]; omega) (HR.out.below HB0.out).cells (bv_one _) (by omega) HB0.out.size ?_)
  intro v4 w4 ho4 hg4 hat4
  obtain ⟨A4, c4, rfl, _⟩ := own_slice ho4
  have ho4' : w4.ownsRow w.heap.size 5 1 (.slice A4 b.length c4) b.length (bv b) := by simpa using ho4
  have HB4 := Lib.hid (below_upd (F := fun k => k = w.heap.size) HB0.out HB0.out.size ((Upd.refl (fun k => k = w.heap.size) (w.alloc (.cells #[] 5))).grown hg4 (fun k hk _ => (Option.some.inj (show some w.heap.size = some k from hk)).symm)) (fun k hk => by rw [hk]; exact Nat.le_refl _))
  have HC := Lib.hid (show bv [b8 x] = [.int .u8 (x % 256)] by show [Value.int .u8 (un8 (b8 x))] = _; rw [un8_b8])
  have HO4 := Lib.hid ho4'
  clear ho4 ho4' hg4 hat4
  go_wp2_with (at_builtin; refine append_any rfl (.tmp 7) (.tmp 10) 25 rfl w.heap.size 5 (.int .u8 0) 1 1 Try.underlying25 info8 rfl (by omega) (by omega) (.slice A4 b.length c4) b.length (bv b) (by first | rfl | simp [Act.eval]) (HO4.out.alloc _) (some ⟨w4.heap.size, 0, none⟩) 1 1 [.int .u8 (x % 256)] rfl rfl (RC_newL w4 _ _) (by rw [← HC.out]; exact bv_one _) (by omega) (by have := HB4.out.size; simp; omega) ?_)
  intro v5 w5 ho5 hg5 hat5
  have HB5 := Lib.hid (below_upd (F := fun k => (Value.slice A4 b.length c4).ownBlock = some k) HB4.out HB4.out.size (((Upd.refl (fun k => (Value.slice A4 b.length c4).ownBlock = some k) w4).alloc _).grown hg5 (fun k hk _ => hk)) (fun k hk => (HO4.out.lt k hk).1))
  have HO5 := Lib.hid (show w5.ownsRow w.heap.size 5 1 v5 (b.length + 1) (bv (b ++ [b8 x])) by rw [bv_append, HC.out]; exact ho5)
  clear ho5 hg5 hat5
  go_wp2_with fail
  go_ret
  exact ⟨_, rfl, HO5.out, HB5.out⟩

theorem gb8_take (l : List Int) (i : Nat) (h : i < l.length) : gb8 (l.take (i + 1)) = gb8 (l.take i) ++ [b8 l[i]] := by
  unfold gb8
  rw [List.take_succ_eq_append_getElem h, List.map_append]
  rfl

set_option maxRecDepth 100000 in
set_option maxHeartbeats 8000000 in
theorem refText20_any (m : Rm) (w : World) (hr : RG w m.A m.groups) (ht : m.tx.length ≤ 1500000) (hg : m.groups.length ≤ 100000) (hbd : m.body.length ≤ 1500000) :
    Calls Try.prog 21 #[.agg m.cells.toArray] w fun e w' => e = .returned (.string (strB (txtOf m.p))) ∧ Below w.heap.size w w' := by
  obtain ⟨mk, mt, mA, mc, mg, mb⟩ := m
  dsimp only at hr ht hg hbd
  have hbx : (w.alloc (.cells (⟨mk, mt, mA, mc, mg, mb⟩ : Rm).cells.toArray 55)).heap[w.heap.size]? = some (.cells (⟨mk, mt, mA, mc, mg, mb⟩ : Rm).cells.toArray 55 (0, 0)) := heap_alloc_new w _
  have hb1 : Below w.heap.size w (w.alloc (.cells (⟨mk, mt, mA, mc, mg, mb⟩ : Rm).cells.toArray 55)) := (Below.refl _ _).alloc (Nat.le_refl _) _
  obtain ⟨w1, hw1⟩ : ∃ w1, w1 = w.alloc (.cells (⟨mk, mt, mA, mc, mg, mb⟩ : Rm).cells.toArray 55) := ⟨_, rfl⟩
  rw [← hw1] at hbx hb1
  obtain ⟨gb, hgb⟩ : ∃ gb, gb = w.heap.size := ⟨_, rfl⟩
  rw [← hgb] at hbx
  have G0 : w1.cell? ⟨gb, 0, none⟩ = some (.int .i64 mk) := (cell_of_row w1 gb 0 _ _ _ hbx).trans rfl
  have G1 : w1.cell? ⟨gb, 1, none⟩ = some (.string (strB mt)) := (cell_of_row w1 gb 1 _ _ _ hbx).trans rfl
  have G2 : w1.cell? ⟨gb, 2, none⟩ = some (.slice mA mg.length mc) := (cell_of_row w1 gb 2 _ _ _ hbx).trans rfl
  have G3 : w1.cell? ⟨gb, 3, none⟩ = some (.string (strB mb)) := (cell_of_row w1 gb 3 _ _ _ hbx).trans rfl
  have HB1 := Lib.hid hb1
  have HW1 := Lib.hid hw1
  have HGB := Lib.hid hgb
  have HR := Lib.hid (hr.below hb1)
  have HT := Lib.hid ht
  have HG := Lib.hid hg
  have HBD := Lib.hid hbd
  clear hbx hb1 hw1 hgb hr ht hbd
  go_enter Try.func21, Try.ntmps21
  go_upto_region 1 with fail
  rw [show w.alloc (.cells (⟨mk, mt, mA, mc, mg, mb⟩ : Rm).cells.toArray 55) = w1 from HW1.out.symm, ← HGB.out]
  refine region_by (fun W => Below w1.heap.size w1 W) [(fun v _ => v = .pointer (some ⟨gb, 0, none⟩)), (fun v _ => v = .int .i64 mk), fun v W => ∃ A c, v = .slice A ([b8 mk]).length c ∧ RB W A ([b8 mk]), (fun v _ => v = .pointer (some ⟨gb, 1, none⟩)), (fun v _ => v = .string (strB mt)), fun v W => ∃ A c, v = .slice A ([b8 mk] ++ be4n mt.length ++ mt).length c ∧ RB W A ([b8 mk] ++ be4n mt.length ++ mt), (fun v _ => v = .pointer (some ⟨gb, 2, none⟩)), (fun v _ => v = .slice mA mg.length mc), (fun v _ => v = .int .i64 (mg.length : Int)), fun v W => ∃ A c, v = .slice A ([b8 mk] ++ be4n mt.length ++ mt ++ [b8 (mg.length : Int)]).length c ∧ RB W A ([b8 mk] ++ be4n mt.length ++ mt ++ [b8 (mg.length : Int)]), fun v W => ∃ A c, v = .slice A ([b8 mk] ++ be4n mt.length ++ mt ++ [b8 (mg.length : Int)]).length c ∧ RB W A ([b8 mk] ++ be4n mt.length ++ mt ++ [b8 (mg.length : Int)])] (by kernel_rfl) (by kernel_rfl) (by kernel_rfl) rfl ((Below.refl _ _).drew) ?ok1 ?fin1
  case ok1 =>
    refine ⟨?_, ?_, ?_, ?_, ?_, ?_, ?_, ?_, ?_, ?_, ?_, trivial⟩
    · intro a' w' K hI hd hq hK
      have e1 : a'.eval (.tmp 1) = .pointer (some ⟨gb, 0, none⟩) := (hq 1 (by kernel_rfl)).trans rfl
      clear hd hq
      refine op_value (wanted_free _ _ (by rfl)) (v := .pointer (some ⟨gb, 0, none⟩)) (w'' := w') ?_ (hK _ _ hI (fun _ _ h => h) rfl)
      clear hK
      simp only [execOp, e1]
      have f1 : a'.tmps[1]?.getD undef = .pointer (some ⟨gb, 0, none⟩) := (Array.getD_eq_getD_getElem? ..).symm.trans e1
      clear e1
      first | rfl | (go_simp <;> exact IntWalk.i64_in _ (by omega))
    · intro a' w' K hI hd hq hK
      have e5 : a'.eval (.tmp 5) = .pointer (some ⟨gb, 0, none⟩) := (hd 0 5 (by kernel_rfl))
      clear hd hq
      have cx := cell_below hI G0
      refine op_value (wanted_free _ _ (by rfl)) (v := .int .i64 mk) (w'' := w') ?_ (hK _ _ hI (fun _ _ h => h) rfl)
      clear hK
      simp only [execOp, e5]
      have f5 : a'.tmps[5]?.getD undef = .pointer (some ⟨gb, 0, none⟩) := (Array.getD_eq_getD_getElem? ..).symm.trans e5
      clear e5
      first | rfl | (go_simp <;> exact IntWalk.i64_in _ (by omega))
    · intro a' w' K hI hd hq hK
      have e6 : a'.eval (.tmp 6) = .int .i64 mk := (hd 1 6 (by kernel_rfl))
      clear hd hq
      refine op_call #[.slice none 0 0, .int .i64 mk] (wanted_free _ _ (by rfl)) rfl Try.func44 (by kernel_rfl) rfl (by simp only [List.map_toArray, List.map_cons, List.map_nil, e6]; try rfl) ?_
      refine (refByte_any none 0 0 [] mk w' rfl (by decide) (by intro h; exact absurd h (by decide))).mono ?_
      rintro e w6 ⟨v6, rfl, ho6, hb6⟩
      obtain ⟨A6, c6, rfl, _⟩ := own_slice ho6
      exact ⟨_, rfl, hK _ _ (below_below hI hI.size hb6) (fun j u => by match j with | 0 => exact fun h => h | 1 => exact fun h => h | 2 => exact fun ⟨A, c, h1, h2⟩ => ⟨A, c, h1, h2.below hb6⟩ | 3 => exact fun h => h | 4 => exact fun h => h | 5 => exact fun ⟨A, c, h1, h2⟩ => ⟨A, c, h1, h2.below hb6⟩ | 6 => exact fun h => h | 7 => exact fun h => h | 8 => exact fun h => h | 9 => exact fun ⟨A, c, h1, h2⟩ => ⟨A, c, h1, h2.below hb6⟩ | 10 => exact fun ⟨A, c, h1, h2⟩ => ⟨A, c, h1, h2.below hb6⟩ | _ + 11 => exact fun _ => trivial) ⟨A6, c6, rfl, own_RC ho6 |>.bytes⟩⟩
    · intro a' w' K hI hd hq hK
      have e1 : a'.eval (.tmp 1) = .pointer (some ⟨gb, 0, none⟩) := (hq 1 (by kernel_rfl)).trans rfl
      clear hd hq
      refine op_value (wanted_free _ _ (by rfl)) (v := .pointer (some ⟨gb, 1, none⟩)) (w'' := w') ?_ (hK _ _ hI (fun _ _ h => h) rfl)
      clear hK
      simp only [execOp, e1]
      have f1 : a'.tmps[1]?.getD undef = .pointer (some ⟨gb, 0, none⟩) := (Array.getD_eq_getD_getElem? ..).symm.trans e1
      clear e1
      first | rfl | (go_simp <;> exact IntWalk.i64_in _ (by omega))
    · intro a' w' K hI hd hq hK
      have e8 : a'.eval (.tmp 8) = .pointer (some ⟨gb, 1, none⟩) := (hd 3 8 (by kernel_rfl))
      clear hd hq
      have cx := cell_below hI G1
      refine op_value (wanted_free _ _ (by rfl)) (v := .string (strB mt)) (w'' := w') ?_ (hK _ _ hI (fun _ _ h => h) rfl)
      clear hK
      simp only [execOp, e8]
      have f8 : a'.tmps[8]?.getD undef = .pointer (some ⟨gb, 1, none⟩) := (Array.getD_eq_getD_getElem? ..).symm.trans e8
      clear e8
      first | rfl | (go_simp <;> exact IntWalk.i64_in _ (by omega))
    · intro a' w' K hI hd hq hK
      have e7 := hd 2 7 (by kernel_rfl)
      have e9 : a'.eval (.tmp 9) = .string (strB mt) := (hd 4 9 (by kernel_rfl))
      clear hd hq
      obtain ⟨A0, c0, e7, hr0⟩ := (show ∃ A c, a'.eval (.tmp 7) = .slice A ([b8 mk]).length c ∧ RB w' A ([b8 mk]) from e7)
      refine op_call #[.slice A0 ([b8 mk]).length c0, .string (strB mt)] (wanted_free _ _ (by rfl)) rfl Try.func45 (by kernel_rfl) rfl (by simp only [List.map_toArray, List.map_cons, List.map_nil, e7, e9]; try rfl) ?_
      refine (refText_any A0 _ c0 [b8 mk] mt w' rfl (by simp) hr0 HT.out).mono ?_
      rintro e w6 ⟨v6, rfl, ho6, hb6⟩
      obtain ⟨A6, c6, rfl, _⟩ := own_slice ho6
      exact ⟨_, rfl, hK _ _ (below_below hI hI.size hb6) (fun j u => by match j with | 0 => exact fun h => h | 1 => exact fun h => h | 2 => exact fun ⟨A, c, h1, h2⟩ => ⟨A, c, h1, h2.below hb6⟩ | 3 => exact fun h => h | 4 => exact fun h => h | 5 => exact fun ⟨A, c, h1, h2⟩ => ⟨A, c, h1, h2.below hb6⟩ | 6 => exact fun h => h | 7 => exact fun h => h | 8 => exact fun h => h | 9 => exact fun ⟨A, c, h1, h2⟩ => ⟨A, c, h1, h2.below hb6⟩ | 10 => exact fun ⟨A, c, h1, h2⟩ => ⟨A, c, h1, h2.below hb6⟩ | _ + 11 => exact fun _ => trivial) ⟨A6, c6, by simp [be4n_length]; try omega, own_RC ho6 |>.bytes⟩⟩
    · intro a' w' K hI hd hq hK
      have e1 : a'.eval (.tmp 1) = .pointer (some ⟨gb, 0, none⟩) := (hq 1 (by kernel_rfl)).trans rfl
      clear hd hq
      refine op_value (wanted_free _ _ (by rfl)) (v := .pointer (some ⟨gb, 2, none⟩)) (w'' := w') ?_ (hK _ _ hI (fun _ _ h => h) rfl)
      clear hK
      simp only [execOp, e1]
      have f1 : a'.tmps[1]?.getD undef = .pointer (some ⟨gb, 0, none⟩) := (Array.getD_eq_getD_getElem? ..).symm.trans e1
      clear e1
      first | rfl | (go_simp <;> exact IntWalk.i64_in _ (by omega))
    · intro a' w' K hI hd hq hK
      have e11 : a'.eval (.tmp 11) = .pointer (some ⟨gb, 2, none⟩) := (hd 6 11 (by kernel_rfl))
      clear hd hq
      have cx := cell_below hI G2
      refine op_value (wanted_free _ _ (by rfl)) (v := .slice mA mg.length mc) (w'' := w') ?_ (hK _ _ hI (fun _ _ h => h) rfl)
      clear hK
      simp only [execOp, e11]
      have f11 : a'.tmps[11]?.getD undef = .pointer (some ⟨gb, 2, none⟩) := (Array.getD_eq_getD_getElem? ..).symm.trans e11
      clear e11
      first | rfl | (go_simp <;> exact IntWalk.i64_in _ (by omega))
    · intro a' w' K hI hd hq hK
      have e12 : a'.eval (.tmp 12) = .slice mA mg.length mc := (hd 7 12 (by kernel_rfl))
      clear hd hq
      refine op_value (wanted_free _ _ (by rfl)) (v := .int .i64 (mg.length : Int)) (w'' := w') ?_ (hK _ _ hI (fun _ _ h => h) rfl)
      clear hK
      simp only [execOp, e12]
      have f12 : a'.tmps[12]?.getD undef = .slice mA mg.length mc := (Array.getD_eq_getD_getElem? ..).symm.trans e12
      clear e12
      first | rfl | (go_simp <;> exact IntWalk.i64_in _ (by omega))
    · intro a' w' K hI hd hq hK
      have e10 := hd 5 10 (by kernel_rfl)
      have e13 : a'.eval (.tmp 13) = .int .i64 (mg.length : Int) := (hd 8 13 (by kernel_rfl))
      clear hd hq
      obtain ⟨A0, c0, e10, hr0⟩ := (show ∃ A c, a'.eval (.tmp 10) = .slice A ([b8 mk] ++ be4n mt.length ++ mt).length c ∧ RB w' A ([b8 mk] ++ be4n mt.length ++ mt) from e10)
      refine op_call #[.slice A0 ([b8 mk] ++ be4n mt.length ++ mt).length c0, .int .i64 (mg.length : Int)] (wanted_free _ _ (by rfl)) rfl Try.func44 (by kernel_rfl) rfl (by simp only [List.map_toArray, List.map_cons, List.map_nil, e10, e13]; try rfl) ?_
      refine (refByte_any A0 _ c0 ([b8 mk] ++ be4n mt.length ++ mt) (mg.length : Int) w' rfl (by have := HT.out; simp [be4n_length]; omega) hr0).mono ?_
      rintro e w6 ⟨v6, rfl, ho6, hb6⟩
      obtain ⟨A6, c6, rfl, _⟩ := own_slice ho6
      exact ⟨_, rfl, hK _ _ (below_below hI hI.size hb6) (fun j u => by match j with | 0 => exact fun h => h | 1 => exact fun h => h | 2 => exact fun ⟨A, c, h1, h2⟩ => ⟨A, c, h1, h2.below hb6⟩ | 3 => exact fun h => h | 4 => exact fun h => h | 5 => exact fun ⟨A, c, h1, h2⟩ => ⟨A, c, h1, h2.below hb6⟩ | 6 => exact fun h => h | 7 => exact fun h => h | 8 => exact fun h => h | 9 => exact fun ⟨A, c, h1, h2⟩ => ⟨A, c, h1, h2.below hb6⟩ | 10 => exact fun ⟨A, c, h1, h2⟩ => ⟨A, c, h1, h2.below hb6⟩ | _ + 11 => exact fun _ => trivial) ⟨A6, c6, by simp [be4n_length]; try omega, own_RC ho6 |>.bytes⟩⟩
    · intro a' w' K hI hd hq hK
      have e14 := hd 9 14 (by kernel_rfl)
      clear hd hq
      refine op_value (wanted_free _ _ (by rfl)) (v := a'.eval (.tmp 14)) (w'' := w') ?_ (hK _ _ hI (fun _ _ h => h) e14)
      simp only [execOp, Sem.run_pure]
  case fin1 =>
    rintro w' hI _ rfl _ rfl _ _ _ rfl _ rfl _ _ _ rfl _ rfl _ rfl _ _ v14 hst
    simp only [Act.put, List.setIfInBounds_toArray, List.set_cons_zero, List.set_cons_succ, FinGoal]
    obtain ⟨A3, c3, rfl, hr3⟩ := hst
    have HI := Lib.hid hI
    have HR3 := Lib.hid hr3
    have g2 := cell_below hI G2
    have g3 := cell_below hI G3
    obtain ⟨P0, hP0⟩ : ∃ P0, P0 = [b8 mk] ++ be4n mt.length ++ mt ++ [b8 (mg.length : Int)] := ⟨_, rfl⟩
    rw [← hP0] at HR3 ⊢
    have hP0l : P0.length ≤ 1500010 := by rw [hP0]; have := HT.out; simp [be4n_length]; omega
    have HP0 := Lib.hid hP0
    have HP0L := Lib.hid hP0l
    clear hI hr3 G0 G1 hP0 hP0l g2 g3
    go_wp2_with fail
    go_loopg [3,4] mg.length (fun k s3 s4 wr => ∃ (i : Nat) (A : Option Addr) (c : Nat), i ≤ mg.length ∧ k = mg.length - i ∧ s4 = .int .i64 (i : Int) ∧ s3 = .slice A (P0 ++ gb8 (mg.take i)).length c ∧ RB wr A (P0 ++ gb8 (mg.take i)) ∧ Below w1.heap.size w1 wr)
    case atStart => exact ⟨0, A3, c3, Nat.zero_le _, by omega, rfl, by simp [gb8], by simpa [gb8] using HR3.out, HI.out⟩
    case round =>
      obtain ⟨i, A, c, hi, hk, rfl, rfl, hrb, hb⟩ := hrel
      have HK := Lib.hid hk
      have HRB := Lib.hid hrb
      have HB := Lib.hid hb
      have g2 := cell_below hb G2
      have g3 := cell_below hb G3
      have hPl : (P0 ++ gb8 (mg.take i)).length ≤ 1700000 := by rw [List.length_append]; unfold gb8; rw [List.length_map, List.length_take]; have := HP0L.out; omega
      have HPL := Lib.hid hPl
      clear hk hrb hb
      by_cases hlt : i < mg.length
      · obtain ⟨bg, og, rfl, hcg⟩ := HR.out.part (by omega)
        have kx := cell_below HB.out (hcg i hlt)
        have HTK := Lib.hid (gb8_take mg i hlt)
        obtain ⟨x, hx⟩ : ∃ x, x = mg[i] := ⟨_, rfl⟩
        rw [← hx] at kx HTK
        have i0 : (0 : Int) ≤ (i : Int) := by omega
        have i1 : (i : Int) < (mg.length : Int) := by omega
        have HLT := Lib.hid hlt
        obtain ⟨PI, hPI⟩ : ∃ PI, PI = P0 ++ gb8 (mg.take i) := ⟨_, rfl⟩
        have HTK2 := Lib.hid (show P0 ++ gb8 (mg.take (i + 1)) = PI ++ [b8 x] by rw [HTK.out, hPI, List.append_assoc])
        rw [← hPI] at HRB HPL ⊢
        clear hcg hx hlt hi hPl hPI
        go_wp2_with fail
        refine (refByte_any A PI.length c PI x _ rfl (by have := HPL.out; omega) HRB.out).mono ?_
        rintro e w6 ⟨v6, rfl, ho6, hb6⟩
        obtain ⟨A6, c6, rfl, _⟩ := own_slice ho6
        have HR6 := Lib.hid (own_RC ho6).bytes
        have HB6 := Lib.hid (below_below HB.out HB.out.size hb6)
        clear ho6 hb6 kx
        go_wp2_with fail
        go_roundg (mg.length - (i + 1))
        case measure => have := HK.out; have := HLT.out; omega
        case rel => exact ⟨i + 1, A6, c6, HLT.out, rfl, by go_num, by rw [HTK2.out, List.length_append]; rfl, by rw [HTK2.out]; exact HR6.out, HB6.out⟩
      · obtain rfl : i = mg.length := by omega
        rw [List.take_length] at HRB HPL ⊢
        obtain ⟨PI, hPI⟩ : ∃ PI, PI = P0 ++ gb8 mg := ⟨_, rfl⟩
        have HPI := Lib.hid hPI
        rw [← hPI] at HRB HPL ⊢
        clear hlt hi hPI hPl
        go_wp2_with fail
        refine (refText_any A PI.length c PI mb _ rfl (by have := HPL.out; omega) HRB.out HBD.out).mono ?_
        rintro e w6 ⟨v6, rfl, ho6, hb6⟩
        obtain ⟨A6, c6, rfl, _⟩ := own_slice ho6
        have hst := run_string_RB (P := Try.prog) w6 25 9 5 Try.underlying25 Try.underlying5 Try.underlying9 A6 (PI.length + 4 + mb.length) c6 (PI ++ be4n mb.length ++ mb) (by simp [be4n_length]; omega) (own_RC ho6).bytes
        have HB6 := Lib.hid (below_below HB.out HB.out.size hb6)
        clear ho6 hb6 g2 g3
        go_wp2_with fail
        go_ret
        refine ⟨?_, below_below HB1.out HB1.out.size HB6.out⟩
        show Ending.returned (.string (strB (PI ++ (be4n mb.length ++ mb)))) = _
        rw [← List.append_assoc, HPI.out, HP0.out]
        rfl

end Go.Proofs.Ytjakhemolecbnaa
end

/-
  The walks of the law's rec and claim.
-/
section
set_option linter.unusedVariables false
set_option linter.unusedSimpArgs false
namespace Go.Proofs.Ytjakhemolecbnaa
open Go.RowKit

theorem infoRecR : (Try.prog.info? 55).map (·.size) = some 4 := by kernel_rfl
theorem infoClm : (Try.prog.info? 27).map (·.size) = some 2 := by kernel_rfl

set_option maxRecDepth 100000 in
set_option maxHeartbeats 4000000 in
theorem rec_any (m : Rm) (w : World) :
    Calls Try.prog 22 #[.agg m.cells.toArray] w fun e w' => e = .returned (.agg m.cells.toArray) ∧ Below w.heap.size w w' := by
  obtain ⟨mk, mt, mA, mc, mg, mb⟩ := m
  obtain ⟨z1, hz1⟩ : ∃ z1, z1 = strB mt := ⟨_, rfl⟩
  obtain ⟨z2, hz2⟩ : ∃ z2, z2 = strB mb := ⟨_, rfl⟩
  rw [show (⟨mk, mt, mA, mc, mg, mb⟩ : Rm).cells.toArray = #[.int .i64 mk, .string z1, .slice mA mg.length mc, .string z2] by rw [hz1, hz2]; rfl]
  clear hz1 hz2
  have hg1 : ((w.alloc (.cells #[.int .i64 mk, .string z1, .slice mA mg.length mc, .string z2] 24)).alloc (.cells recZ 55)).heap[w.heap.size]? = some (.cells #[.int .i64 mk, .string z1, .slice mA mg.length mc, .string z2] 24 (0, 0)) := (Below.heap_alloc _ _ _ (by simp)).trans (heap_alloc_new w _)
  have hg2 : ((w.alloc (.cells #[.int .i64 mk, .string z1, .slice mA mg.length mc, .string z2] 24)).alloc (.cells recZ 55)).heap[w.heap.size + 1]? = some (.cells recZ 55 (0, 0)) := by
    have h := heap_alloc_new (w.alloc (.cells #[.int .i64 mk, .string z1, .slice mA mg.length mc, .string z2] 24)) (.cells recZ 55)
    simpa using h
  have hb2 : Below w.heap.size w ((w.alloc (.cells #[.int .i64 mk, .string z1, .slice mA mg.length mc, .string z2] 24)).alloc (.cells recZ 55)) := ((Below.refl _ _).alloc (Nat.le_refl _) _).alloc (by simp) _
  obtain ⟨w2, hw2⟩ : ∃ w2, w2 = ((w.alloc (.cells #[.int .i64 mk, .string z1, .slice mA mg.length mc, .string z2] 24)).alloc (.cells recZ 55)) := ⟨_, rfl⟩
  rw [← hw2] at hg1 hg2 hb2
  obtain ⟨g, hg⟩ : ∃ g, g = w.heap.size := ⟨_, rfl⟩
  rw [← hg] at hg1 hg2
  have k0 : w2.cell? ⟨g, 0, none⟩ = some (.int .i64 mk) := (cell_of_row w2 g 0 _ _ _ hg1).trans rfl
  have k1 : w2.cell? ⟨g, 1, none⟩ = some (.string z1) := (cell_of_row w2 g 1 _ _ _ hg1).trans rfl
  have k2 : w2.cell? ⟨g, 2, none⟩ = some (.slice mA mg.length mc) := (cell_of_row w2 g 2 _ _ _ hg1).trans rfl
  have k3 : w2.cell? ⟨g, 3, none⟩ = some (.string z2) := (cell_of_row w2 g 3 _ _ _ hg1).trans rfl
  have y0 : w2.cell? ⟨g + 1, 0, none⟩ = some (.int .i64 0) := (cell_of_row w2 _ 0 _ _ _ hg2).trans rfl
  have y1 : w2.cell? ⟨g + 1, 1, none⟩ = some (.string ⟨#[]⟩) := (cell_of_row w2 _ 1 _ _ _ hg2).trans rfl
  have y2 : w2.cell? ⟨g + 1, 2, none⟩ = some (.slice none 0 0) := (cell_of_row w2 _ 2 _ _ _ hg2).trans rfl
  have y3 : w2.cell? ⟨g + 1, 3, none⟩ = some (.string ⟨#[]⟩) := (cell_of_row w2 _ 3 _ _ _ hg2).trans rfl
  have f0 := frozen_of_row w2 (g + 1) 0 _ _ hg2
  have f1 := frozen_of_row w2 (g + 1) 1 _ _ hg2
  have f2 := frozen_of_row w2 (g + 1) 2 _ _ hg2
  have f3 := frozen_of_row w2 (g + 1) 3 _ _ hg2
  have HF := Lib.hid (show ∀ W, W = (((w2.setCell ⟨g + 1, 0, none⟩ (.int .i64 mk)).setCell ⟨g + 1, 1, none⟩ (.string z1)).setCell ⟨g + 1, 2, none⟩ (.slice mA mg.length mc)).setCell ⟨g + 1, 3, none⟩ (.string z2) → W.heap[g + 1]? = some (.cells #[.int .i64 mk, .string z1, .slice mA mg.length mc, .string z2] 55 (0, 0)) ∧ Below w.heap.size w W from by
    rintro W rfl
    refine ⟨?_, (((hb2.setCell (by simp only []; omega) _).setCell (by simp only []; omega) _).setCell (by simp only []; omega) _).setCell (by simp only []; omega) _⟩
    rw [setCell_at (setCell_at (setCell_at (setCell_at hg2 _) _) _) _]
    rfl)
  have HW2 := Lib.hid hw2
  have HG := Lib.hid hg
  clear hg1 hg2 hb2 hw2 hg
  go_enter Try.func22, Try.ntmps22
  go_upto_region 1 with fail
  rw [show ((w.alloc (.cells #[.int .i64 mk, .string z1, .slice mA mg.length mc, .string z2] 24)).alloc (.cells #[.int .i64 0, .string ⟨#[]⟩, .slice none 0 0, .string ⟨#[]⟩] 55)) = w2 from HW2.out.symm, ← HG.out]
  go_wp2_with fail
  try simp only [Exit.inBlock, Exit.then]
  obtain ⟨hf1, hf2⟩ := HF.out _ rfl
  refine bodyPost_ret (v := .agg #[.int .i64 mk, .string z1, .slice mA mg.length mc, .string z2]) ?_ rfl ?_
  · exact results_cell_row rfl _ _ (g + 1) 55 _ (0, 0) _ rfl hf1 Try.underlying55 rfl infoRecR
  · exact ⟨rfl, hf2⟩

def txts (ms : List Rm) : List (List UInt8) := ms.map fun m => txtOf m.p
theorem txts_take (ms : List Rm) (i : Nat) (m : Rm) (h : ms[i]? = some m) : txts (ms.take (i + 1)) = txts (ms.take i) ++ [txtOf m.p] := by
  obtain ⟨hi, rfl⟩ := List.getElem?_eq_some_iff.1 h
  unfold txts
  rw [List.take_succ_eq_append_getElem hi, List.map_append]
  rfl
theorem txtOf_length (r : Rp) : (txtOf r).length = 10 + r.tx.length + r.groups.length + r.body.length := by
  unfold txtOf gb8
  simp only [List.length_append, be4n_length, List.length_map, List.length_singleton]
  omega
/-- Records of moderate size, as they lie in memory. -/
structure RmAt (w : World) (A : Option Addr) (ms : List Rm) : Prop where
  r : RC w A (rmc ms)
  g : ∀ m ∈ ms, RG w m.A m.groups ∧ m.tx.length ≤ 1000 ∧ m.groups.length ≤ 1000 ∧ m.body.length ≤ 1000
theorem RmAt.below {w w' : World} {A : Option Addr} {ms : List Rm} (h : RmAt w A ms) (hb : Below w.heap.size w w') : RmAt w' A ms := ⟨h.r.below hb, fun m hm => ⟨(h.g m hm).1.below hb, (h.g m hm).2⟩⟩
/-- What claim makes. -/
def encR (rs : List Rp) : List UInt8 := encOf (mkOf (rs.map txtOf))

set_option maxRecDepth 100000 in
set_option maxHeartbeats 8000000 in
theorem claim_any (gr : Int) (A : Option Addr) (n c : Nat) (ms : List Rm) (w : World) (hl : ms.length = n) (hn : n ≤ 1000) (hr : RmAt w A ms) :
    Calls Try.prog 9 #[.int .i64 gr, .slice A n c] w fun e w' => ∃ A' c', e = .returned (.agg #[.int .i64 gr, .slice A' (encR (ms.map Rm.p)).length c']) ∧ w'.ownsRow w.heap.size 5 1 (.slice A' (encR (ms.map Rm.p)).length c') (encR (ms.map Rm.p)).length (bv (encR (ms.map Rm.p))) ∧ Below w.heap.size w w' := by
  subst hl
  have HR := Lib.hid hr
  have HN := Lib.hid hn
  clear hr
  have hb1 : Below w.heap.size w (w.alloc (.cells #[.int .i64 0, .slice none 0 0] 27)) := (Below.refl _ _).alloc (Nat.le_refl _) _
  have hx1 := heap_alloc_new w (.cells #[.int .i64 0, .slice none 0 0] 27)
  have hs1 : w.heap.size < (w.alloc (.cells #[.int .i64 0, .slice none 0 0] 27)).heap.size := by simp
  obtain ⟨w1, hw1⟩ : ∃ w1, w1 = w.alloc (.cells #[.int .i64 0, .slice none 0 0] 27) := ⟨_, rfl⟩
  rw [← hw1] at hb1 hx1 hs1
  obtain ⟨bz, hbz⟩ : ∃ bz, bz = w.heap.size := ⟨_, rfl⟩
  rw [← hbz] at hx1 hs1
  have HB1 := Lib.hid hb1
  have HX1 := Lib.hid hx1
  have HS1 := Lib.hid hs1
  have HW1 := Lib.hid hw1
  have HBZ := Lib.hid hbz
  clear hb1 hx1 hs1 hw1 hbz
  go_enter Try.func9, Try.ntmps9
  go_upto_region 1 with fail
  rw [← HW1.out, ← HBZ.out]
  go_wp2_with fail
  go_loopg [5,6] ms.length (fun k s5 s6 wr => ∃ (i : Nat), i ≤ ms.length ∧ k = ms.length - i ∧ s6 = .int .i64 (i : Int) ∧ wr.ownsRow w1.heap.size 9 1 s5 i (sv (txts (ms.take i))) ∧ Below w1.heap.size w1 wr)
  case atStart => exact ⟨0, Nat.zero_le _, by omega, rfl, World.ownsRow_nil _ _ _ _, Below.refl _ _⟩
  case round =>
    obtain ⟨i, hi, hk, rfl, ho, hb⟩ := hrel
    have HK := Lib.hid hk
    have HO := Lib.hid ho
    have HB := Lib.hid hb
    have HBB := Lib.hid (show Below w.heap.size w wr from below_below HB1.out HB1.out.size hb)
    clear hk ho hb
    by_cases hlt : i < ms.length
    · obtain ⟨m, hm⟩ : ∃ m, ms[i]? = some m := ⟨_, List.getElem?_eq_getElem hlt⟩
      have HMM := Lib.hid (List.mem_of_getElem? hm)
      have HTK := Lib.hid (txts_take ms i m hm)
      obtain ⟨br, orr, rfl, hcell⟩ := RC.part HR.out.r (by rw [rmc_length]; omega)
      have hg := rmc_get ms i hlt
      have hme : ms[i] = m := by
        have := List.getElem?_eq_getElem hlt
        rw [hm] at this
        exact (Option.some.inj this).symm
      rw [hme] at hg
      have z0 := cell_below HBB.out (hcell _ _ hg.1)
      have z1 := cell_below HBB.out (hcell _ _ hg.2.1)
      have z2 := cell_below HBB.out (hcell _ _ hg.2.2.1)
      have z3 := cell_below HBB.out (hcell _ _ hg.2.2.2)
      rw [← Nat.add_assoc] at z1 z2 z3
      have hgm := HR.out.g m HMM.out
      have i0 : (0 : Int) ≤ (i : Int) := by omega
      have i1 : (i : Int) < (ms.length : Int) := by omega
      have HLT := Lib.hid hlt
      have HGM := Lib.hid hgm
      clear hm hcell hg hme hgm hlt hi
      go_wp2_with fail
      refine (rec_any m wr).mono ?_
      rintro e w3 ⟨rfl, hb3⟩
      have HB3 := Lib.hid (below_below HB.out HB.out.size hb3)
      have HO3 := Lib.hid (own_below HO.out hb3)
      clear hb3 z0 z1 z2 z3
      go_wp2_with fail
      refine (refText20_any m w3 (HGM.out.1.below (below_below HB1.out HB1.out.size HB3.out)) (by have := HGM.out.2.1; omega) (by have := HGM.out.2.2.1; omega) (by have := HGM.out.2.2.2; omega)).mono ?_
      rintro e w4 ⟨rfl, hb4⟩
      have HB4 := Lib.hid (below_below HB3.out HB3.out.size hb4)
      have HO4 := Lib.hid (own_below HO3.out hb4)
      clear hb4
      go_wp2_with (at_builtin; refine append_any rfl _ _ 49 rfl w1.heap.size 9 (.string ⟨#[]⟩) 1 16 Try.underlying49 infoS rfl (by omega) (by omega) u5 i (sv (txts (ms.take i))) rfl (HO4.out.alloc _) _ 1 _ [.string (strB (txtOf m.p))] rfl rfl (RC_newL _ [.string (strB (txtOf m.p))] 9) (by intro u hu; simp at hu; rw [hu]; rfl) ?c1 ?c2 ?_)
      case c1 => have := HN.out; have := HLT.out; omega
      case c2 => have := HB4.out.size; simp; omega
      intro v6 w6 ho6 hg6 hat6
      have HO6 := Lib.hid (show w6.ownsRow w1.heap.size 9 1 v6 (i + 1) (sv (txts (ms.take (i + 1)))) by rw [HTK.out, sv_append]; exact ho6)
      have HB6 := Lib.hid (((HB4.out.alloc HB4.out.size _).grown hg6 (by have := HB4.out.size; simp; omega) (fun k hk => (World.ownsRow.lt HO4.out k hk).1) : Below w1.heap.size w1 w6))
      clear ho6 hg6 hat6
      go_wp2_with fail
      go_roundg (ms.length - (i + 1))
      case measure => have := HK.out; have := HLT.out; omega
      case rel => exact ⟨i + 1, HLT.out, rfl, by go_num, HO6.out, HB6.out⟩
    · obtain rfl : i = ms.length := by omega
      rw [List.take_length] at HO
      obtain ⟨T, hT⟩ : ∃ T, T = txts ms := ⟨_, rfl⟩
      rw [← hT] at HO
      have hTl : T.length = ms.length := by rw [hT]; simp [txts]
      have HTE := Lib.hid (show mkOf T = mkOf ((ms.map Rm.p).map txtOf) by rw [hT]; unfold txts; rw [List.map_map]; rfl)
      have HTS := Lib.hid (show ∀ x ∈ T, x.length ≤ 4000 by
        intro x hx
        rw [hT] at hx
        unfold txts at hx
        obtain ⟨m, hm, rfl⟩ := List.mem_map.1 hx
        obtain ⟨_, h1, h2, h3⟩ := HR.out.g m hm
        rw [txtOf_length]
        show 10 + m.tx.length + m.groups.length + m.body.length ≤ 4000
        omega)
      rw [← hTl] at HO
      have HTL := Lib.hid hTl
      obtain ⟨A5, c5, rfl, _⟩ := own_slice HO.out
      have hnl : ¬ ((ms.length : Int) < (ms.length : Int)) := by omega
      clear hT hlt hi
      rw [← hTl] at hnl ⊢
      clear hTl
      have hTn : T.length ≤ 1000 := by rw [HTL.out]; exact HN.out
      go_wp2_with fail
      refine (refMake_any A5 T.length c5 T wr rfl (by omega) (fun x hx => Nat.le_trans (HTS.out x hx) (by decide)) (own_RC HO.out)).mono ?_
      rintro e w6 ⟨v6, rfl, ho6, hb6⟩
      obtain ⟨A6, c6, rfl, _⟩ := own_slice ho6
      have HO6 := Lib.hid ho6
      have HB6 := Lib.hid (below_below HB.out HB.out.size hb6)
      have HMT := Lib.hid (show ∀ x ∈ mkOf T, x.1.length ≤ 4000 by
        intro x hx
        have h : x.1 ∈ (mkOf T).map (·.1) := List.mem_map.2 ⟨x, hx, rfl⟩
        rw [mkOf_map] at h
        exact HTS.out _ h)
      clear ho6 hb6
      go_wp2_with fail
      refine (refEncode_any A6 T.length c6 (mkOf T) w6 (mkOf_length T) (by omega) (mkOf_heads T) HMT.out (own_RC HO6.out)).mono ?_
      rintro e w7 ⟨v7, rfl, ho7, hb7⟩
      obtain ⟨A7, c7, rfl, _⟩ := own_slice ho7
      have HEN := Lib.hid (show encOf (mkOf T) = encR (ms.map Rm.p) by unfold encR; rw [HTE.out])
      rw [HEN.out] at ho7 ⊢
      have HO7 := Lib.hid ho7
      have HB7 := Lib.hid (below_below HB6.out HB6.out.size hb7)
      have hxz := (HB7.out.block bz HS1.out).trans HX1.out
      have HZ := Lib.hid hxz
      have y0 : w7.cell? ⟨bz, 0, none⟩ = some (.int .i64 0) := (cell_of_row w7 bz 0 _ _ _ hxz).trans rfl
      have y1 : w7.cell? ⟨bz, 1, none⟩ = some (.slice none 0 0) := (cell_of_row w7 bz 1 _ _ _ hxz).trans rfl
      have f0 := frozen_of_row w7 bz 0 _ _ hxz
      have f1 := frozen_of_row w7 bz 1 _ _ hxz
      have HU := Lib.hid (show Upd (fun k => k = bz) w7 ((w7.setCell ⟨bz, 0, none⟩ (.int .i64 gr)).setCell ⟨bz, 1, none⟩ (.slice A7 (encR (ms.map Rm.p)).length c7)) from ((Upd.refl (fun k => k = bz) w7).setCell (p := ⟨bz, 0, none⟩) (fun _ => rfl) _).setCell (p := ⟨bz, 1, none⟩) (fun _ => rfl) _)
      obtain ⟨Ln, hLn⟩ : ∃ Ln, Ln = (encR (ms.map Rm.p)).length := ⟨_, rfl⟩
      rw [← hLn] at HU HO7 ⊢
      have HLN := Lib.hid hLn
      clear ho7 hb7 hxz hLn
      go_wp2_with fail
      try simp only [Exit.inBlock, Exit.then]
      refine bodyPost_ret (v := .agg #[.int .i64 gr, .slice A7 Ln c7]) ?_ rfl ?_
      · exact results_cell_row rfl _ _ bz 27 _ (0, 0) _ rfl (by rw [setCell_at (setCell_at HZ.out _) _]; rfl) Try.underlying27 rfl infoClm
      · obtain rfl := HLN.out
        have hs := HBZ.out
        have hs1 := HS1.out
        have hbl := below_below HB1.out HB1.out.size HB7.out
        refine ⟨A7, c7, rfl, ?_, below_upd hbl hbl.size HU.out (fun k hk => by omega)⟩
        exact own_upd (own_lower HO7.out (show w.heap.size ≤ w6.heap.size from Nat.le_trans HB1.out.size HB6.out.size)) HU.out (fun k hk e => by have := (World.ownsRow.lt HO7.out k hk).1; have := HB6.out.size; omega)

end Go.Proofs.Ytjakhemolecbnaa
end

/-
  Records' texts are read as the records, chains' bytes as the chains (plain Lean).
-/
section
set_option linter.unusedVariables false
set_option linter.unusedSimpArgs false
namespace Go.Proofs.Ytjakhemolecbnaa
open Go.RowKit

theorem raw_at {l x t : List UInt8} {a : Nat} (h : l.drop a = x ++ t) (ha : a ≤ l.length) : rawS l x.length ⟨a, 0, 0⟩ = (x, ⟨a + x.length, 0, 0⟩) ∧ l.drop (a + x.length) = t ∧ a + x.length ≤ l.length := by
  have hl : l.length - a = x.length + t.length := by have := congrArg List.length h; simpa using this
  refine ⟨?_, ?_, by omega⟩
  · unfold rawS
    rw [if_neg (by simp), if_neg (by show ¬ l.length < a + x.length; omega)]
    show ((l.drop a).take x.length, _) = _
    rw [h, List.take_left]
  · rw [← List.drop_drop, h, List.drop_left]
theorem byte_at {l t : List UInt8} {x : UInt8} {a : Nat} (h : l.drop a = x :: t) (ha : a ≤ l.length) : byteS l ⟨a, 0, 0⟩ = (x, ⟨a + 1, 0, 0⟩) ∧ l.drop (a + 1) = t ∧ a + 1 ≤ l.length := by
  obtain ⟨h1, h2, h3⟩ := raw_at (x := [x]) (t := t) h ha
  refine ⟨?_, h2, h3⟩
  have h1' : rawS l 1 ⟨a, 0, 0⟩ = ([x], ⟨a + 1, 0, 0⟩) := h1
  unfold byteS
  rw [h1']
  rfl
theorem num_be4 (n : Nat) (h : n < 4294967296) : numOf (be4n n) = n := by
  have h1 := numOf_four (be4n n) (Nat.le_refl 4)
  have h2 := four_be4 n h []
  rw [List.append_nil] at h2
  rw [h2] at h1
  exact h1
theorem four_at {l t : List UInt8} {n a : Nat} (h : l.drop a = be4n n ++ t) (hn : n < 4294967296) (ha : a ≤ l.length) : fourS l ⟨a, 0, 0⟩ = (n, ⟨a + 4, 0, 0⟩) ∧ l.drop (a + 4) = t ∧ a + 4 ≤ l.length := by
  obtain ⟨h1, h2, h3⟩ := raw_at (x := be4n n) (t := t) h ha
  refine ⟨?_, h2, h3⟩
  have h1' : rawS l 4 ⟨a, 0, 0⟩ = (be4n n, ⟨a + 4, 0, 0⟩) := h1
  unfold fourS
  rw [h1', num_be4 n hn]
theorem count_at {l t : List UInt8} {n a most : Nat} (h : l.drop a = be4n n ++ t) (hn : n ≤ most) (hm : most < 4294967296) (ha : a ≤ l.length) : countS l most ⟨a, 0, 0⟩ = (n, ⟨a + 4, 0, 0⟩) ∧ l.drop (a + 4) = t ∧ a + 4 ≤ l.length := by
  obtain ⟨h1, h2, h3⟩ := four_at h (by omega) ha
  refine ⟨?_, h2, h3⟩
  unfold countS
  rw [h1, if_neg (by show ¬ most < n; omega)]
theorem text_at {l s t : List UInt8} {a : Nat} (h : l.drop a = be4n s.length ++ (s ++ t)) (hs : s.length ≤ 4000) (ha : a ≤ l.length) : textS l 4000 ⟨a, 0, 0⟩ = (s, ⟨a + 4 + s.length, 0, 0⟩) ∧ l.drop (a + 4 + s.length) = t ∧ a + 4 + s.length ≤ l.length := by
  obtain ⟨h1, h2, h3⟩ := count_at h hs (by decide) ha
  obtain ⟨h4, h5, h6⟩ := raw_at h2 h3
  refine ⟨?_, h5, h6⟩
  unfold textS
  rw [h1]
  exact h4
theorem grp_at {l : List UInt8} {a : Nat} : ∀ {gs t : List UInt8}, l.drop a = gs ++ t → a ≤ l.length → ∀ j, j ≤ gs.length → grpS l j ⟨a, 0, 0⟩ = (gs.take j, ⟨a + j, 0, 0⟩)
  | gs, t, h, ha, 0, _ => by simp [grpS]
  | gs, t, h, ha, j + 1, hj => by
    have ih := grp_at h ha j (by omega)
    have hl : l.length - a = gs.length + t.length := by have := congrArg List.length h; simpa using this
    have hd : l.drop (a + j) = gs[j] :: (gs.drop (j + 1) ++ t) := by
      rw [← List.drop_drop, h, List.drop_append_of_le_length (by omega), List.drop_eq_getElem_cons (by omega), List.cons_append]
    obtain ⟨h1, _, _⟩ := byte_at hd (by omega)
    unfold grpS
    rw [ih, h1, List.take_succ_eq_append_getElem (by omega)]
    rfl
theorem end_at (l : List UInt8) : endS l ⟨l.length, 0, 0⟩ = (0, 0) := by
  unfold endS
  rw [if_neg (by simp), if_neg (by show ¬ l.length < l.length; omega)]
/-- A record of its form, and of moderate size. -/
structure rOK (r : Rp) : Prop where
  pre : finePre r.kind r.tx = true
  k : 0 ≤ r.kind ∧ r.kind ≤ 255
  fine : fineOf true (gb8 r.groups) = true
  back : (gb8 r.groups).map un8 = r.groups
  tx : r.tx.length ≤ 1000
  gl : r.groups.length ≤ 255
  bd : r.body.length ≤ 1000
theorem read_parts (r : Rp) (hk : 0 ≤ r.kind ∧ r.kind ≤ 255) (htx : r.tx.length ≤ 4000) (hgl : r.groups.length ≤ 255) (hbd : r.body.length ≤ 4000) (back : (gb8 r.groups).map un8 = r.groups) :
    readS (txtOf r) = if fineOf (finePre r.kind r.tx) (gb8 r.groups) = true then some r else none := by
  obtain ⟨k, tx, gs, bd⟩ := r
  dsimp only at *
  obtain ⟨l, hl⟩ : ∃ l, l = txtOf ⟨k, tx, gs, bd⟩ := ⟨_, rfl⟩
  rw [← hl]
  have hlen : l.length = 10 + tx.length + gs.length + bd.length := by rw [hl, txtOf_length]
  have d0 : l.drop 0 = b8 k :: (be4n tx.length ++ (tx ++ (b8 (gs.length : Int) :: (gb8 gs ++ (be4n bd.length ++ (bd ++ [])))))) := by
    rw [hl]
    simp [txtOf]
  obtain ⟨e1, d1, l1⟩ := byte_at d0 (by omega)
  obtain ⟨e2, d2, l2⟩ := text_at d1 htx l1
  obtain ⟨e3, d3, l3⟩ := byte_at d2 l2
  have hgl2 : (gb8 gs).length = gs.length := by simp [gb8]
  have e4 := grp_at d3 l3 gs.length (by omega)
  have d4 := (raw_at d3 l3).2
  rw [hgl2] at d4
  rw [show (gb8 gs).take gs.length = gb8 gs by rw [← hgl2, List.take_length]] at e4
  obtain ⟨e5, d5, l5⟩ := text_at d4.1 hbd d4.2
  have hn : (b8 (gs.length : Int)).toNat = gs.length := by
    have := un8_b8 (gs.length : Int)
    have h2 : ((b8 (gs.length : Int)).toNat : Int) = (gs.length : Int) % 256 := this
    omega
  have hend : 0 + 1 + 4 + tx.length + 1 + gs.length + 4 + bd.length = l.length := by omega
  have hkk : un8 (b8 k) = k := by rw [un8_b8]; omega
  unfold readS
  simp only [e1, e2, e3, hn, e4, e5]
  rw [hend, end_at, hkk]
  simp [back]
theorem read_txt {r : Rp} (h : rOK r) : readS (txtOf r) = some r := by
  rw [read_parts r h.k (Nat.le_trans h.tx (by decide)) h.gl (Nat.le_trans h.bd (by decide)) h.back, h.pre, if_pos h.fine]

theorem good_mk (T : List (List UInt8)) (j : Nat) (hj : j < (mkOf T).length) : goodAt (mkOf T) j = true := by
  have hj' : j < T.length := by rw [mkOf_length] at hj; exact hj
  unfold goodAt
  rw [decide_eq_true_eq, List.map_take, mkOf_map]
  rw [List.getD_eq_getElem?_getD, List.getElem?_eq_getElem hj, Option.getD_some, mkOf_get T j hj hj']
theorem run_enc (T : List (List UInt8)) (hs : ∀ x ∈ T, x.length ≤ 4000) : ∀ (k i : Nat) (P : List Nat), i + k = (mkOf T).length → runS (encOf (mkOf T)) k ⟨posOf (mkOf T) i, 0, 0⟩ ((mkOf T).take i) P = .inr (mkOf T)
  | 0, i, P, h => by
    obtain rfl : i = (mkOf T).length := by omega
    rw [List.take_length, posOf_all]
    unfold runS concS
    rw [end_at, if_neg (by simp), checkOf_good _ (fun j hj => good_mk T j hj), if_neg (Nat.lt_irrefl _)]
  | k + 1, i, P, h => by
    have hi : i < (mkOf T).length := by omega
    obtain ⟨t, ht⟩ := enc_at (mkOf T) i hi
    have hh := mkOf_heads T _ (List.getElem_mem hi)
    have htx : ((mkOf T)[i]).1.length ≤ 4000 := by
      have h : ((mkOf T)[i]).1 ∈ (mkOf T).map (·.1) := List.mem_map.2 ⟨_, List.getElem_mem hi, rfl⟩
      rw [mkOf_map] at h
      exact hs _ h
    have hpos := posOf_succ (mkOf T) i hi hh
    have hle : posOf (mkOf T) i ≤ (encOf (mkOf T)).length := by
      by_cases h2 : posOf (mkOf T) i ≤ (encOf (mkOf T)).length
      · exact h2
      · rw [List.drop_eq_nil_of_le (by omega)] at ht
        have := congrArg List.length ht
        simp only [List.length_append, be4n_length, List.length_nil] at this
        omega
    obtain ⟨e1, d1, l1⟩ := text_at ht htx hle
    obtain ⟨e2, d2, l2⟩ := raw_at d1 l1
    rw [hh] at e2
    unfold runS
    rw [if_neg (by simp)]
    have el : linkS (encOf (mkOf T)) ⟨posOf (mkOf T) i, 0, 0⟩ = ((mkOf T)[i], ⟨posOf (mkOf T) (i + 1), 0, 0⟩) := by
      unfold linkS
      rw [e1]
      dsimp only
      rw [e2, hpos]
      unfold pad32
      dsimp only
      rw [if_pos hh]
    rw [el]
    dsimp only
    rw [← List.take_succ_eq_append_getElem hi]
    exact run_enc T hs k (i + 1) _ (by omega)
theorem dec_enc (T : List (List UInt8)) (hT : T.length ≤ 4000) (hs : ∀ x ∈ T, x.length ≤ 4000) : decS (encOf (mkOf T)) = .inr (mkOf T) := by
  have hl := mkOf_length T
  have d0 : (encOf (mkOf T)).drop 0 = be4n (mkOf T).length ++ encL (mkOf T) := rfl
  obtain ⟨e1, _, _⟩ := count_at (most := 4096) d0 (by omega) (by decide) (Nat.zero_le _)
  unfold decS
  rw [e1]
  have := run_enc T hs (mkOf T).length 0 [] (by omega)
  rw [posOf_zero, List.take_zero] at this
  exact this
theorem recs_all : ∀ (rs : List Rp) (M : Lks), M.map (·.1) = rs.map txtOf → (∀ r ∈ rs, rOK r) → recsOf M = (rs, true)
  | [], [], _, _ => by rw [recsOf]
  | [], _ :: _, h, _ => by simp at h
  | _ :: _, [], h, _ => by simp at h
  | r :: rs, x :: M, h, ho => by
    simp only [List.map_cons, List.cons.injEq] at h
    rw [recsOf_cons, h.1, read_txt (ho r (by simp)), recs_all rs M h.2 (fun q hq => ho q (by simp [hq])), recStep]
theorem encR_parts (rs : List Rp) (hl : rs.length ≤ 1000) (ho : ∀ r ∈ rs, rOK r) (g : Int) : claimP g (encR rs) = ⟨g, mkOf (rs.map txtOf), true, rs, true, 0⟩ := by
  have hd : decS (encR rs) = .inr (mkOf (rs.map txtOf)) := dec_enc (rs.map txtOf) (by rw [List.length_map]; omega) (by
    intro x hx
    obtain ⟨r, hr, rfl⟩ := List.mem_map.1 hx
    rw [txtOf_length]
    have := (ho r hr).tx
    have := (ho r hr).gl
    have := (ho r hr).bd
    omega)
  unfold claimP
  rw [hd]
  dsimp only
  rw [recs_all rs _ (mkOf_map _) ho]
  rfl
theorem encL_len : ∀ (M : Lks), (∀ x ∈ M, x.1.length ≤ 4000 ∧ x.2.length = 32) → (encL M).length ≤ M.length * 4036
  | [], _ => by simp [encL]
  | x :: M, h => by
    have ih := encL_len M (fun y hy => h y (by simp [hy]))
    have hx := h x (by simp)
    have e : encL (x :: M) = (be4n x.1.length ++ x.1 ++ x.2) ++ encL M := rfl
    rw [e, List.length_append, List.length_append, List.length_append, be4n_length, List.length_cons]
    omega
theorem encR_len (rs : List Rp) (hl : rs.length ≤ 1000) (ho : ∀ r ∈ rs, rOK r) : (encR rs).length ≤ 4100000 := by
  have h := encL_len (mkOf (rs.map txtOf)) (fun x hx => ⟨by
    have h2 : x.1 ∈ (mkOf (rs.map txtOf)).map (·.1) := List.mem_map.2 ⟨x, hx, rfl⟩
    rw [mkOf_map] at h2
    obtain ⟨r, hr, e⟩ := List.mem_map.1 h2
    rw [← e, txtOf_length]
    have := (ho r hr).tx
    have := (ho r hr).gl
    have := (ho r hr).bd
    omega, mkOf_heads _ x hx⟩)
  rw [mkOf_length, List.length_map] at h
  unfold encR encOf
  rw [List.length_append, be4n_length]
  omega
end Go.Proofs.Ytjakhemolecbnaa
end

/-
  The walk of the law's known.
-/
section
set_option linter.unusedVariables false
set_option linter.unusedSimpArgs false
namespace Go.Proofs.Ytjakhemolecbnaa
open Go.RowKit

def pP : Rp := ⟨2, [116], [0, 1], []⟩
def pC : Rp := ⟨3, [116], [0, 1], []⟩
def pA : Rp := ⟨4, [116], [0, 1], []⟩
theorem rOK_P : rOK pP := ⟨by decide, by decide, by decide, by decide, by decide, by decide, by decide⟩
theorem rOK_C : rOK pC := ⟨by decide, by decide, by decide, by decide, by decide, by decide, by decide⟩
theorem rOK_A : rOK pA := ⟨by decide, by decide, by decide, by decide, by decide, by decide, by decide⟩
theorem known_v (M0 M1 : Lks) : verP [⟨0, M0, true, [pP, pC], true, 0⟩, ⟨1, M1, true, [pA], true, 0⟩] = (5, 0, 1) := by rfl
theorem known_g (M0 : Lks) : verP [⟨0, M0, true, [pP, pC], true, 0⟩] = (0, 0, 0) := by rfl
theorem RC_take {w : World} {A : Option Addr} {l : List Value} (h : RC w A l) (k : Nat) : RC w A (l.take k) := by
  intro h0
  rw [List.length_take] at h0
  obtain ⟨ad, e, hh⟩ := h (by omega)
  exact ⟨ad, e, fun j u hj => hh j u (by rw [List.getElem?_take] at hj; split at hj; exact hj; cases hj)⟩
theorem own_nil {w : World} {base n m c size : Nat} {e : TypeId} {A : Option Addr} {xs : List Value} (h : w.ownsRow base e size (.slice A n c) m xs) : A = none → c = 0 := by
  intro e'
  subst e'
  rcases h.2 with ⟨hv, _⟩ | ⟨g, cap, cur, hv, _⟩
  · cases hv; rfl
  · cases hv
theorem ClsAt_nil (w : World) : ClsAt w none [] := ⟨fun h => absurd h (by simp [clc]), fun x hx => by cases hx⟩

set_option maxRecDepth 100000 in
set_option maxHeartbeats 8000000 in
theorem known_any (w : World) :
    Calls Try.prog 16 #[] w fun e w' => e = .returned (.bool true) ∧ Below w.heap.size w w' := by
  go_enter Try.func16, Try.ntmps16
  go_wp2_with fail
  refine (verify_p none 0 0 [] w rfl (by decide) (ClsAt_nil w)).mono ?_
  rintro e w1 ⟨rfl, hb1⟩
  rw [show verP ([].map Cl.p) = (0, 0, 0) from rfl]
  have HB1 := Lib.hid hb1
  clear hb1
  dsimp only
  -- the first claim
  obtain ⟨wA, hwA⟩ : ∃ wA, wA = w1.alloc (.cells #[.int .i64 0, .int .i64 0, .int .i64 0] 33) := ⟨_, rfl⟩
  obtain ⟨wB, hwB⟩ : ∃ wB, wB = wA.alloc (.cells #[.int .i64 0, .int .i64 1] 3) := ⟨_, rfl⟩
  obtain ⟨wC, hwC⟩ : ∃ wC, wC = wB.alloc (.cells #[.int .i64 0, .int .i64 1] 3) := ⟨_, rfl⟩
  obtain ⟨n1, hn1⟩ : ∃ n1, n1 = w1.heap.size := ⟨_, rfl⟩
  have sA : wA.heap.size = n1 + 1 := by rw [hwA, hn1]; simp
  have sB : wB.heap.size = n1 + 1 + 1 := by rw [hwB]; simp [sA]
  have sC : wC.heap.size = n1 + 1 + 1 + 1 := by rw [hwC]; simp [sB]
  obtain ⟨wD, hwD⟩ : ∃ wD, wD = wC.alloc (.cells #[.int .i64 2, .string ⟨#[116]⟩, .slice (some ⟨n1 + 1, 0, none⟩) 2 2, .string ⟨#[]⟩, .int .i64 3, .string ⟨#[116]⟩, .slice (some ⟨n1 + 1 + 1, 0, none⟩) 2 2, .string ⟨#[]⟩] 24) := ⟨_, rfl⟩
  have bAB : Below wA.heap.size wA wB := by rw [hwB]; exact (Below.refl _ _).alloc (Nat.le_refl _) _
  have bBC : Below wB.heap.size wB wC := by rw [hwC]; exact (Below.refl _ _).alloc (Nat.le_refl _) _
  have bCD : Below wC.heap.size wC wD := by rw [hwD]; exact (Below.refl _ _).alloc (Nat.le_refl _) _
  have b1A : Below w1.heap.size w1 wA := by rw [hwA]; exact (Below.refl _ _).alloc (Nat.le_refl _) _
  have BAD := Lib.hid (below_below (below_below bAB bAB.size bBC) (below_below bAB bAB.size bBC).size bCD)
  have B1D := Lib.hid (below_below b1A b1A.size BAD.out)
  have gB : RG wB (some ⟨n1 + 1, 0, none⟩) [0, 1] := by rw [← sA, hwB]; exact RC_newL wA [.int .i64 0, .int .i64 1] _
  have gC : RG wC (some ⟨n1 + 1 + 1, 0, none⟩) [0, 1] := by rw [← sB, hwC]; exact RC_newL wB [.int .i64 0, .int .i64 1] _
  have RM := Lib.hid (show RmAt wD (some ⟨n1 + 1 + 1 + 1, 0, none⟩) [⟨2, [116], some ⟨n1 + 1, 0, none⟩, 2, [0, 1], []⟩, ⟨3, [116], some ⟨n1 + 1 + 1, 0, none⟩, 2, [0, 1], []⟩] from by
    refine ⟨?_, fun m hm => ?_⟩
    · rw [← sC, hwD]
      exact RC_newL wC [.int .i64 2, .string ⟨#[116]⟩, .slice (some ⟨n1 + 1, 0, none⟩) 2 2, .string ⟨#[]⟩, .int .i64 3, .string ⟨#[116]⟩, .slice (some ⟨n1 + 1 + 1, 0, none⟩) 2 2, .string ⟨#[]⟩] _
    · simp only [List.mem_cons, List.not_mem_nil, or_false] at hm
      rcases hm with rfl | rfl
      · exact ⟨(gB.below bBC).below bCD, by simp, by simp, by simp⟩
      · exact ⟨gC.below bCD, by simp, by simp, by simp⟩)
  have kf0 : ∀ j, j < 3 → wD.cell? ⟨n1, j, none⟩ = some (.int .i64 0) := fun j hj => by
    have h : wA.heap[n1]? = some (.cells #[.int .i64 0, .int .i64 0, .int .i64 0] 33 (0, 0)) := by rw [hwA, hn1]; exact heap_alloc_new w1 _
    have h2 : wA.cell? ⟨n1, j, none⟩ = some (.int .i64 0) := by
      rw [cell_of_row wA n1 j _ _ _ h]
      match j, hj with
      | 0, _ => rfl
      | 1, _ => rfl
      | 2, _ => rfl
    exact cell_below BAD.out h2
  have HWD := Lib.hid (show (((w1.alloc (.cells #[.int .i64 0, .int .i64 0, .int .i64 0] 33)).alloc (.cells #[.int .i64 0, .int .i64 1] 3)).alloc (.cells #[.int .i64 0, .int .i64 1] 3)).alloc (.cells #[.int .i64 2, .string ⟨#[116]⟩, .slice (some ⟨n1 + 1, 0, none⟩) 2 2, .string ⟨#[]⟩, .int .i64 3, .string ⟨#[116]⟩, .slice (some ⟨n1 + 1 + 1, 0, none⟩) 2 2, .string ⟨#[]⟩] 24) = wD by rw [hwD, hwC, hwB, hwA])
  have HN1 := Lib.hid hn1
  clear hwA hwB hwC hwD sA sB sC bAB bBC bCD b1A gB gC hn1
  go_wp2_with fail
  rw [← HN1.out, HWD.out]
  refine (claim_any 0 _ 2 2 _ wD rfl (by decide) RM.out).mono ?_
  rintro e w3 ⟨A3, c3, rfl, ho3, hb3⟩
  rw [show ([⟨2, [116], some ⟨n1 + 1, 0, none⟩, 2, [0, 1], []⟩, ⟨3, [116], some ⟨n1 + 1 + 1, 0, none⟩, 2, [0, 1], []⟩] : List Rm).map Rm.p = [pP, pC] from rfl] at ho3 ⊢
  have HE1 := Lib.hid (encR_parts [pP, pC] (by decide) (by intro r hr; simp only [List.mem_cons, List.not_mem_nil, or_false] at hr; rcases hr with rfl | rfl; exact rOK_P; exact rOK_C) 0)
  have HL1 := Lib.hid (encR_len [pP, pC] (by decide) (by intro r hr; simp only [List.mem_cons, List.not_mem_nil, or_false] at hr; rcases hr with rfl | rfl; exact rOK_P; exact rOK_C))
  obtain ⟨E1, hE1⟩ : ∃ E1, E1 = encR [pP, pC] := ⟨_, rfl⟩
  rw [← hE1] at ho3 HE1 HL1 ⊢
  have HO3 := Lib.hid ho3
  have B3 := Lib.hid hb3
  have F3 := Lib.hid (fun j hj => cell_below hb3 (kf0 j hj))
  clear ho3 hb3 kf0 hE1
  -- the second claim
  obtain ⟨wF, hwF⟩ : ∃ wF, wF = w3.alloc (.cells #[.int .i64 0, .int .i64 1] 3) := ⟨_, rfl⟩
  obtain ⟨n3, hn3⟩ : ∃ n3, n3 = w3.heap.size := ⟨_, rfl⟩
  have sF : wF.heap.size = n3 + 1 := by rw [hwF, hn3]; simp
  obtain ⟨wG, hwG⟩ : ∃ wG, wG = wF.alloc (.cells #[.int .i64 4, .string ⟨#[116]⟩, .slice (some ⟨n3, 0, none⟩) 2 2, .string ⟨#[]⟩] 24) := ⟨_, rfl⟩
  have b3F : Below w3.heap.size w3 wF := by rw [hwF]; exact (Below.refl _ _).alloc (Nat.le_refl _) _
  have bFG : Below wF.heap.size wF wG := by rw [hwG]; exact (Below.refl _ _).alloc (Nat.le_refl _) _
  have B3G := Lib.hid (below_below b3F b3F.size bFG)
  have RM2 := Lib.hid (show RmAt wG (some ⟨n3 + 1, 0, none⟩) [⟨4, [116], some ⟨n3, 0, none⟩, 2, [0, 1], []⟩] from by
    refine ⟨?_, fun m hm => ?_⟩
    · rw [← sF, hwG]
      exact RC_newL wF [.int .i64 4, .string ⟨#[116]⟩, .slice (some ⟨n3, 0, none⟩) 2 2, .string ⟨#[]⟩] _
    · rw [List.mem_singleton.1 hm]
      refine ⟨RG.below ?_ bFG, by simp, by simp, by simp⟩
      rw [hn3, hwF]
      exact RC_newL w3 [.int .i64 0, .int .i64 1] _)
  have HWG := Lib.hid (show ((w3.alloc (.cells #[.int .i64 0, .int .i64 1] 3)).alloc (.cells #[.int .i64 4, .string ⟨#[116]⟩, .slice (some ⟨n3, 0, none⟩) 2 2, .string ⟨#[]⟩] 24)) = wG by rw [hwG, hwF])
  have HN3 := Lib.hid hn3
  clear hwF hwG sF b3F bFG hn3
  go_wp2_with fail
  rw [← HN3.out, HWG.out]
  refine (claim_any 1 _ 1 1 _ wG rfl (by decide) RM2.out).mono ?_
  rintro e w4 ⟨A4, c4, rfl, ho4, hb4⟩
  rw [show ([⟨4, [116], some ⟨n3, 0, none⟩, 2, [0, 1], []⟩] : List Rm).map Rm.p = [pA] from rfl] at ho4 ⊢
  have HE2 := Lib.hid (encR_parts [pA] (by decide) (by intro r hr; rw [List.mem_singleton.1 hr]; exact rOK_A) 1)
  have HL2 := Lib.hid (encR_len [pA] (by decide) (by intro r hr; rw [List.mem_singleton.1 hr]; exact rOK_A))
  obtain ⟨E2, hE2⟩ : ∃ E2, E2 = encR [pA] := ⟨_, rfl⟩
  rw [← hE2] at ho4 HE2 HL2 ⊢
  have HO4 := Lib.hid ho4
  have HO34 := Lib.hid (own_below (own_below HO3.out B3G.out) hb4)
  have B34 := Lib.hid (below_below B3G.out B3G.out.size hb4)
  clear ho4 hb4 hE2
  -- Verify of both
  obtain ⟨w5, hw5⟩ : ∃ w5, w5 = w4.alloc (.cells #[.int .i64 0, .slice A3 E1.length c3, .int .i64 1, .slice A4 E2.length c4] 27) := ⟨_, rfl⟩
  have b45 : Below w4.heap.size w4 w5 := by rw [hw5]; exact (Below.refl _ _).alloc (Nat.le_refl _) _
  have CL := Lib.hid (show ClsAt w5 (some ⟨w4.heap.size, 0, none⟩) [⟨0, A3, c3, E1⟩, ⟨1, A4, c4, E2⟩] from by
    refine ⟨by rw [hw5]; exact RC_newL w4 [.int .i64 0, .slice A3 E1.length c3, .int .i64 1, .slice A4 E2.length c4] _, fun x hx => ?_⟩
    simp only [List.mem_cons, List.not_mem_nil, or_false] at hx
    rcases hx with rfl | rfl
    · exact ⟨(own_RC (own_below HO34.out b45)).bytes, own_nil HO34.out, Nat.le_trans HL1.out (by decide)⟩
    · exact ⟨(own_RC (own_below HO4.out b45)).bytes, own_nil HO4.out, Nat.le_trans HL2.out (by decide)⟩)
  have HW5 := Lib.hid hw5
  have B45 := Lib.hid b45
  obtain ⟨n4, hn4⟩ : ∃ n4, n4 = w4.heap.size := ⟨_, rfl⟩
  rw [← hn4] at CL
  have HN4 := Lib.hid hn4
  clear hw5 b45 hn4
  go_wp2_with fail
  rw [← HN4.out, show w4.alloc (.cells #[.int .i64 0, .slice A3 E1.length c3, .int .i64 1, .slice A4 E2.length c4] 27) = w5 from HW5.out.symm]
  refine (verify_p _ 2 2 _ w5 rfl (by decide) CL.out).mono ?_
  rw [show ([⟨0, A3, c3, E1⟩, ⟨1, A4, c4, E2⟩] : List Cl).map Cl.p = [claimP 0 E1, claimP 1 E2] from rfl, HE1.out, HE2.out, known_v]
  rintro e w6 ⟨rfl, hb6⟩
  dsimp only
  have B6 := Lib.hid hb6
  clear hb6
  -- Verify of the first
  have b67 : Below w6.heap.size w6 (w6.alloc (.cells #[.int .i64 5, .int .i64 0, .int .i64 1] 33)) := (Below.refl _ _).alloc (Nat.le_refl _) _
  have hx7 := heap_alloc_new w6 (.cells #[.int .i64 5, .int .i64 0, .int .i64 1] 33)
  obtain ⟨w7, hw7⟩ : ∃ w7, w7 = w6.alloc (.cells #[.int .i64 5, .int .i64 0, .int .i64 1] 33) := ⟨_, rfl⟩
  rw [← hw7] at b67 hx7
  obtain ⟨n6, hn6⟩ : ∃ n6, n6 = w6.heap.size := ⟨_, rfl⟩
  rw [← hn6] at hx7
  have B57 := Lib.hid (below_below B6.out B6.out.size b67)
  have CL7 := Lib.hid (CL.out.below B57.out)
  have CL1 := Lib.hid (show ClsAt w7 (some ⟨n4, 0, none⟩) [⟨0, A3, c3, E1⟩] from ⟨RC_take CL7.out.r 2, fun x hx => CL7.out.b x (by rw [List.mem_singleton.1 hx]; simp)⟩)
  have HW7 := Lib.hid hw7
  have HN6 := Lib.hid hn6
  have HX7 := Lib.hid hx7
  have K7 := Lib.hid (show ∀ W, Below w7.heap.size w7 W → W.cell? ⟨n6, 0, none⟩ = some (.int .i64 5) ∧ W.cell? ⟨n6, 1, none⟩ = some (.int .i64 0) ∧ W.cell? ⟨n6, 2, none⟩ = some (.int .i64 1) from fun W hW =>
    ⟨cell_below hW ((cell_of_row w7 n6 0 _ _ _ hx7).trans rfl), cell_below hW ((cell_of_row w7 n6 1 _ _ _ hx7).trans rfl), cell_below hW ((cell_of_row w7 n6 2 _ _ _ hx7).trans rfl)⟩)
  clear b67 hx7 hw7 hn6
  go_upto_region 4 with fail
  rw [← HN6.out, ← HW7.out]
  go_wp2_with fail
  refine (verify_p _ 1 2 _ w7 rfl (by decide) CL1.out).mono ?_
  rw [show ([⟨0, A3, c3, E1⟩] : List Cl).map Cl.p = [claimP 0 E1] from rfl, HE1.out, known_g]
  rintro e w8 ⟨rfl, hb8⟩
  dsimp only
  have b89 : Below w8.heap.size w8 (w8.alloc (.cells #[.int .i64 0, .int .i64 0, .int .i64 0] 33)) := (Below.refl _ _).alloc (Nat.le_refl _) _
  have hx9 := heap_alloc_new w8 (.cells #[.int .i64 0, .int .i64 0, .int .i64 0] 33)
  obtain ⟨w9, hw9⟩ : ∃ w9, w9 = w8.alloc (.cells #[.int .i64 0, .int .i64 0, .int .i64 0] 33) := ⟨_, rfl⟩
  rw [← hw9] at b89 hx9
  obtain ⟨n8, hn8⟩ : ∃ n8, n8 = w8.heap.size := ⟨_, rfl⟩
  rw [← hn8] at hx9
  have B79 := Lib.hid (below_below hb8 hb8.size b89)
  have z0 : w9.cell? ⟨n8, 0, none⟩ = some (.int .i64 0) := (cell_of_row w9 n8 0 _ _ _ hx9).trans rfl
  have z1 : w9.cell? ⟨n8, 1, none⟩ = some (.int .i64 0) := (cell_of_row w9 n8 1 _ _ _ hx9).trans rfl
  have z2 : w9.cell? ⟨n8, 2, none⟩ = some (.int .i64 0) := (cell_of_row w9 n8 2 _ _ _ hx9).trans rfl
  obtain ⟨k0, k1, k2⟩ := K7.out w9 B79.out
  have HW9 := Lib.hid hw9
  have HN8 := Lib.hid hn8
  clear hb8 b89 hx9 hw9 hn8
  go_upto_region 5 with fail
  rw [← HN8.out, ← HW9.out]
  go_wp2_with fail
  go_ret
  refine ⟨rfl, ?_⟩
  have h1 := below_below HB1.out HB1.out.size B1D.out
  have h2 := below_below h1 h1.size B3.out
  have h3 := below_below h2 h2.size B34.out
  have h4 := below_below h3 h3.size B45.out
  have h5 := below_below h4 h4.size B57.out
  exact below_below h5 h5.size B79.out
end Go.Proofs.Ytjakhemolecbnaa
end
