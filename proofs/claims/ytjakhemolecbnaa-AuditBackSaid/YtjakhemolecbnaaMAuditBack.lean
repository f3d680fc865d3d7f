/-
  The texts AuditBack of this proof in one: what each proves is said at its head. No conditions beyond those that each theorem says.
-/
import Derived.Test.YtjakhemolecbnaaMG

/-
  The law AuditBack: a record of its form is written and read as itself; its text with a byte more, or one less, is none.
-/
section
set_option linter.unusedVariables false
set_option linter.unusedSimpArgs false
namespace Go.Proofs.Ytjakhemolecbnaa
open Go.RowKit

theorem tame_ok (k a b : Int) : rOK (tameS k a b) ∧ (tameS k a b).body = [] := by
  have hr3 := withinOf_range k 0 3 (by omega)
  have hr1 := withinOf_range a 0 1 (by omega)
  have hr2 := withinOf_range b 0 2 (by omega)
  unfold tameS
  generalize withinOf k 0 3 = v3 at *
  generalize withinOf a 0 1 = v1 at *
  generalize withinOf b 0 2 = v2 at *
  refine ⟨?_, rfl⟩
  obtain rfl | rfl | rfl | rfl : v3 = 0 ∨ v3 = 1 ∨ v3 = 2 ∨ v3 = 3 := by omega
  all_goals
    obtain rfl | rfl : v1 = 0 ∨ v1 = 1 := by omega
    all_goals
      obtain rfl | rfl | rfl : v2 = 0 ∨ v2 = 1 ∨ v2 = 2 := by omega
      all_goals constructor <;> decide
theorem endS_ne {l : List UInt8} {s : Rs} (h : (endS l s).1 ≠ 0) : ¬ ((endS l s).1 = 0) := h
/-- A text that begins as a record's, and ends otherwise. -/
theorem read_head (r : Rp) (l t : List UInt8) (hl : l = b8 r.kind :: (be4n r.tx.length ++ (r.tx ++ (b8 (r.groups.length : Int) :: (gb8 r.groups ++ t))))) (htx : r.tx.length ≤ 4000) (hgl : r.groups.length ≤ 255) :
    l.length = 6 + r.tx.length + r.groups.length + t.length ∧ l.drop (6 + r.tx.length + r.groups.length) = t ∧ ((endS l (textS l 4000 ⟨6 + r.tx.length + r.groups.length, 0, 0⟩).2).1 ≠ 0 → readS l = none) := by
  obtain ⟨k, tx, gs, bd⟩ := r
  dsimp only at *
  have hgl2 : (gb8 gs).length = gs.length := by simp [gb8]
  have hlen : l.length = 6 + tx.length + gs.length + t.length := by rw [hl]; simp [be4n_length, hgl2]; omega
  have d0 : l.drop 0 = b8 k :: (be4n tx.length ++ (tx ++ (b8 (gs.length : Int) :: (gb8 gs ++ t)))) := hl
  obtain ⟨e1, d1, l1⟩ := byte_at d0 (by omega)
  obtain ⟨e2, d2, l2⟩ := text_at d1 htx l1
  obtain ⟨e3, d3, l3⟩ := byte_at d2 l2
  have e4 := grp_at d3 l3 gs.length (by omega)
  have d4 := (raw_at d3 l3).2
  rw [hgl2] at d4
  have hn : (b8 (gs.length : Int)).toNat = gs.length := by
    have := un8_b8 (gs.length : Int)
    have h2 : ((b8 (gs.length : Int)).toNat : Int) = (gs.length : Int) % 256 := this
    omega
  have ea : 0 + 1 + 4 + tx.length + 1 + gs.length = 6 + tx.length + gs.length := by omega
  rw [ea] at e4 d4
  refine ⟨hlen, d4.1, fun hne => ?_⟩
  unfold readS
  simp only [e1, e2, e3, hn, e4]
  rw [if_neg fun h => hne h.1]
theorem read_more (r : Rp) (h : rOK r) (x : UInt8) : readS (txtOf r ++ [x]) = none := by
  obtain ⟨h1, h2, h3⟩ := read_head r (txtOf r ++ [x]) (be4n r.body.length ++ (r.body ++ [x])) (by simp [txtOf]) (Nat.le_trans h.tx (by decide)) h.gl
  refine h3 ?_
  obtain ⟨e5, d5, l5⟩ := text_at h2 (Nat.le_trans h.bd (by decide)) (by omega)
  rw [e5]
  unfold endS
  rw [if_neg (by simp), if_pos]
  · simp
  · show 6 + r.tx.length + r.groups.length + 4 + r.body.length < (txtOf r ++ [x]).length
    rw [h1]
    simp [be4n_length]
    omega
theorem read_less (r : Rp) (h : rOK r) (hb : r.body = []) : readS ((txtOf r).take ((txtOf r).length - 1)) = none := by
  have e : txtOf r = (b8 r.kind :: (be4n r.tx.length ++ (r.tx ++ (b8 (r.groups.length : Int) :: (gb8 r.groups ++ [0, 0, 0]))))) ++ [0] := by
    unfold txtOf
    rw [hb, show be4n ([] : List UInt8).length = [0, 0, 0] ++ [0] by decide]
    simp
  have e2 : (txtOf r).take ((txtOf r).length - 1) = b8 r.kind :: (be4n r.tx.length ++ (r.tx ++ (b8 (r.groups.length : Int) :: (gb8 r.groups ++ [0, 0, 0])))) := by
    rw [e, List.length_append, List.length_singleton, Nat.add_sub_cancel]
    exact List.take_left' rfl
  obtain ⟨h1, h2, h3⟩ := read_head r _ [0, 0, 0] e2 (Nat.le_trans h.tx (by decide)) h.gl
  refine h3 ?_
  generalize (txtOf r).take ((txtOf r).length - 1) = l at *
  have hl : l.length < 6 + r.tx.length + r.groups.length + 4 := by rw [h1]; simp
  have hr : rawS l 4 ⟨6 + r.tx.length + r.groups.length, 0, 0⟩ = ([], ⟨6 + r.tx.length + r.groups.length, 10, l.length⟩) := by
    unfold rawS
    rw [if_neg (by simp), if_pos hl]
  have hf : fourS l ⟨6 + r.tx.length + r.groups.length, 0, 0⟩ = (0, ⟨6 + r.tx.length + r.groups.length, 10, l.length⟩) := by
    unfold fourS
    rw [hr]
    rfl
  have hc : countS l 4000 ⟨6 + r.tx.length + r.groups.length, 0, 0⟩ = (0, ⟨6 + r.tx.length + r.groups.length, 10, l.length⟩) := by
    unfold countS
    rw [hf]
    simp
  unfold textS
  rw [hc, rawS_bad (by simp)]
  unfold endS
  rw [if_pos (by simp)]
  simp
theorem strB_snoc (l : List UInt8) (x : UInt8) : strB l ++ ⟨#[x]⟩ = strB (l ++ [x]) := by
  apply ByteArray.ext
  simp [strB]
theorem extract_eq (l : List UInt8) (k : Nat) : (strB l).extract 0 k = strB (l.take k) := by
  have h := ByteArray.extract_mk (strB l).data.toList 0 k
  rw [data_eq] at h
  simpa [strB] using h

theorem only_none {e x : Ending} {P : Rp → Option Addr → Nat → Prop} (h : ((none : Option Rp) = none ∧ e = x) ∨ ∃ r A c, (none : Option Rp) = some r ∧ P r A c) : e = x := by
  rcases h with ⟨_, h⟩ | ⟨r, A, c, h, _⟩
  · exact h
  · cases h
theorem four_set {w : World} {g : Nat} {cs : Array Value} {t : TypeId} {fr : Nat × Nat} (h : w.heap[g]? = some (.cells cs t fr)) (hc : cs.size = 4) (u0 u1 u2 u3 : Value) (W : World) (hW : W = (((w.setCell ⟨g, 0, none⟩ u0).setCell ⟨g, 1, none⟩ u1).setCell ⟨g, 2, none⟩ u2).setCell ⟨g, 3, none⟩ u3) : W.heap[g]? = some (.cells #[u0, u1, u2, u3] t fr) ∧ Upd (fun k => k = g) w W := by
  subst hW
  refine ⟨?_, ((((Upd.refl (fun k => k = g) w).setCell (p := ⟨g, 0, none⟩) (fun _ => rfl) _).setCell (p := ⟨g, 1, none⟩) (fun _ => rfl) _).setCell (p := ⟨g, 2, none⟩) (fun _ => rfl) _).setCell (p := ⟨g, 3, none⟩) (fun _ => rfl) _⟩
  rw [setCell_at (setCell_at (setCell_at (setCell_at h _) _) _) _]
  obtain ⟨l⟩ := cs
  match l, hc with
  | [a, b, c, d], _ => rfl

set_option maxRecDepth 100000 in
set_option maxHeartbeats 8000000 in
theorem auditBack_any (m : Rm) (w : World) (h : RmIn w m) :
    Calls Try.prog 8 #[.agg m.cells.toArray] w fun e w' => e = .returned (.bool true) ∧ Below w.heap.size w w' := by
  obtain ⟨mk, mt, mA, mc, mg, mb⟩ := m
  have hbx := box_new w (⟨mk, mt, mA, mc, mg, mb⟩ : Rm)
  have hb1 : Below w.heap.size w (w.alloc (.cells (⟨mk, mt, mA, mc, mg, mb⟩ : Rm).cells.toArray 24)) := (Below.refl _ _).alloc (Nat.le_refl _) _
  obtain ⟨w1, hw1⟩ : ∃ w1, w1 = w.alloc (.cells (⟨mk, mt, mA, mc, mg, mb⟩ : Rm).cells.toArray 24) := ⟨_, rfl⟩
  rw [← hw1] at hbx hb1
  obtain ⟨gb, hgb⟩ : ∃ gb, gb = w.heap.size := ⟨_, rfl⟩
  rw [← hgb] at hbx
  have G0 : w1.cell? ⟨gb, 0, none⟩ = some (.int .i64 mk) := (cell_of_row w1 gb 0 _ _ _ hbx).trans rfl
  have G1 : w1.cell? ⟨gb, 1, none⟩ = some (.string (strB mt)) := (cell_of_row w1 gb 1 _ _ _ hbx).trans rfl
  have G2 : w1.cell? ⟨gb, 2, none⟩ = some (.slice mA mg.length mc) := (cell_of_row w1 gb 2 _ _ _ hbx).trans rfl
  have G3 : w1.cell? ⟨gb, 3, none⟩ = some (.string (strB mb)) := (cell_of_row w1 gb 3 _ _ _ hbx).trans rfl
  have HB1 := Lib.hid hb1
  have HW1 := Lib.hid hw1
  have HGB := Lib.hid hgb
  have HBX := Lib.hid hbx
  have HTX := Lib.hid (show (strB mt).size ≤ 9000000000000000000 by have := h.tx; simp [strB_size]; dsimp only at this; omega)
  have HBD := Lib.hid (show (strB mb).size ≤ 9000000000000000000 by have := h.bd; simp [strB_size]; dsimp only at this; omega)
  clear hbx hb1 hw1 hgb h
  go_enter Try.func8, Try.ntmps8
  go_upto_region 1 with fail
  rw [show w.alloc (.cells (⟨mk, mt, mA, mc, mg, mb⟩ : Rm).cells.toArray 24) = w1 from HW1.out.symm, ← HGB.out]
  go_wp2_with fail
  refine (tame_any mk (strB mt) (strB mb) mA mg.length mc w1 HTX.out HBD.out).mono ?_
  obtain ⟨hok, hbn⟩ := tame_ok mk (strB mt).size (strB mb).size
  generalize tameS mk (strB mt).size (strB mb).size = r at *
  rintro e w2 ⟨A', c', rfl, hb2, hg2, ha2⟩
  have HMORE := Lib.hid (read_more r hok 120)
  have HLESS := Lib.hid (read_less r hok hbn)
  have HREAD := Lib.hid (read_txt hok)
  have HLEN := Lib.hid (txtOf_length r)
  have HT := Lib.hid hok.tx
  have HG := Lib.hid hok.gl
  have HBO := Lib.hid hbn
  obtain ⟨rk, rt, rg, rb⟩ := r
  dsimp only at HT HG HBO HLEN
  have hbx2 : w2.heap[gb]? = some (.cells #[.int .i64 mk, .string (strB mt), .slice mA mg.length mc, .string (strB mb)] 24 (0, 0)) := (hb2.block gb (Array.getElem?_eq_some_iff.1 HBX.out).1).trans HBX.out
  have G0' := cell_below hb2 G0
  have G1' := cell_below hb2 G1
  have G2' := cell_below hb2 G2
  have G3' := cell_below hb2 G3
  have f0 := frozen_of_row w2 gb 0 _ _ hbx2
  have f1 := frozen_of_row w2 gb 1 _ _ hbx2
  have f2 := frozen_of_row w2 gb 2 _ _ hbx2
  have f3 := frozen_of_row w2 gb 3 _ _ hbx2
  have B2 := Lib.hid (below_below HB1.out HB1.out.size hb2)
  have HA2 := Lib.hid ha2
  have HG2 := Lib.hid hg2
  have HGL := Lib.hid (show gb < w1.heap.size from (Array.getElem?_eq_some_iff.1 HBX.out).1)
  obtain ⟨w3, hw3⟩ : ∃ w3, w3 = (((w2.setCell ⟨gb, 0, none⟩ (.int .i64 rk)).setCell ⟨gb, 1, none⟩ (.string (strB rt))).setCell ⟨gb, 2, none⟩ (.slice A' rg.length c')).setCell ⟨gb, 3, none⟩ (.string (strB rb)) := ⟨_, rfl⟩
  obtain ⟨hx3, hu3⟩ := four_set hbx2 rfl _ _ _ _ w3 hw3
  have B3 := Lib.hid (below_upd B2.out B2.out.size hu3 (fun k hk => by have := HGB.out; omega))
  have HG3 := Lib.hid (show RG w3 A' rg from RC.upd hg2 hu3 (fun h0 ad e hk => by have := (ha2 ad e).1; have := HGL.out; omega))
  have HX3 := Lib.hid hx3
  have HW3 := Lib.hid hw3
  have HK3 := Lib.hid (show ∀ W, Below w3.heap.size w3 W → W.cell? ⟨gb, 0, none⟩ = some (.int .i64 rk) ∧ W.cell? ⟨gb, 1, none⟩ = some (.string (strB rt)) ∧ W.cell? ⟨gb, 2, none⟩ = some (.slice A' rg.length c') ∧ W.cell? ⟨gb, 3, none⟩ = some (.string (strB rb)) from fun W hW =>
    ⟨cell_below hW ((cell_of_row w3 gb 0 _ _ _ hx3).trans rfl), cell_below hW ((cell_of_row w3 gb 1 _ _ _ hx3).trans rfl), cell_below hW ((cell_of_row w3 gb 2 _ _ _ hx3).trans rfl), cell_below hW ((cell_of_row w3 gb 3 _ _ _ hx3).trans rfl)⟩)
  unfold Rp.m Rm.cells
  dsimp only
  clear hb2 hg2 ha2 hok hbn hbx2 G0 G1 G2 G3 hu3 hx3 hw3
  go_upto_region 2 with fail
  rw [show (((w2.setCell ⟨gb, 0, none⟩ (.int .i64 rk)).setCell ⟨gb, 1, none⟩ (.string (strB rt))).setCell ⟨gb, 2, none⟩ (.slice A' rg.length c')).setCell ⟨gb, 3, none⟩ (.string (strB rb)) = w3 from HW3.out.symm]
  clear G0' G1' G2' G3' f0 f1 f2 f3
  obtain ⟨g0, g1, g2, g3⟩ := HK3.out w3 (Below.refl _ _)
  go_wp2_with fail
  refine (auditText_any ⟨rk, rt, A', c', rg, rb⟩ w3 HG3.out (by have := HT.out; simp only []; omega) (by have := HG.out; simp only []; omega) (by have := HBO.out; simp only []; rw [this]; simp)).mono ?_
  rintro e w4 ⟨rfl, hb4⟩
  rw [show txtOf (⟨rk, rt, A', c', rg, rb⟩ : Rm).p = txtOf ⟨rk, rt, rg, rb⟩ from rfl]
  have B34 := Lib.hid hb4
  have HSL := Lib.hid (show 10 ≤ (txtOf ⟨rk, rt, rg, rb⟩).length ∧ (txtOf ⟨rk, rt, rg, rb⟩).length ≤ 1300 by
    have h := HLEN.out
    have := HT.out
    have := HG.out
    have h2 : rb.length = 0 := by rw [HBO.out]; rfl
    omega)
  generalize txtOf ⟨rk, rt, rg, rb⟩ = s at *
  clear g0 g1 g2 g3 hb4
  go_wp2_with fail
  refine (read_any s w4 (by have := HSL.out; omega)).mono ?_
  rintro e w5 ⟨hb5, hres⟩
  rw [HREAD.out] at hres
  rcases hres with ⟨hrn, _⟩ | ⟨r', A5, c5, hrs, rfl, hro⟩
  · cases hrn
  obtain rfl := Option.some.inj hrs
  unfold Rp.m Rm.cells
  dsimp only at hro ⊢
  have B35 := Lib.hid (below_below B34.out B34.out.size hb5)
  have hb6 : Below w5.heap.size w5 (w5.alloc (.cells #[.int .i64 rk, .string (strB rt), .slice A5 rg.length c5, .string (strB rb)] 24)) := (Below.refl _ _).alloc (Nat.le_refl _) _
  have hx6 := heap_alloc_new w5 (.cells #[.int .i64 rk, .string (strB rt), .slice A5 rg.length c5, .string (strB rb)] 24)
  obtain ⟨w6, hw6⟩ : ∃ w6, w6 = w5.alloc (.cells #[.int .i64 rk, .string (strB rt), .slice A5 rg.length c5, .string (strB rb)] 24) := ⟨_, rfl⟩
  rw [← hw6] at hb6 hx6
  obtain ⟨n6, hn6⟩ : ∃ n6, n6 = w5.heap.size := ⟨_, rfl⟩
  rw [← hn6] at hx6
  have B36 := Lib.hid (below_below B35.out B35.out.size hb6)
  have HG6 := Lib.hid (show RG w6 A5 rg from (RC.below (own_RC hro) hb6))
  have HK6 := Lib.hid (show ∀ W, Below w6.heap.size w6 W → W.cell? ⟨n6, 0, none⟩ = some (.int .i64 rk) ∧ W.cell? ⟨n6, 1, none⟩ = some (.string (strB rt)) ∧ W.cell? ⟨n6, 2, none⟩ = some (.slice A5 rg.length c5) ∧ W.cell? ⟨n6, 3, none⟩ = some (.string (strB rb)) from fun W hW =>
    ⟨cell_below hW ((cell_of_row w6 n6 0 _ _ _ hx6).trans rfl), cell_below hW ((cell_of_row w6 n6 1 _ _ _ hx6).trans rfl), cell_below hW ((cell_of_row w6 n6 2 _ _ _ hx6).trans rfl), cell_below hW ((cell_of_row w6 n6 3 _ _ _ hx6).trans rfl)⟩)
  have HW6 := Lib.hid hw6
  have HN6 := Lib.hid hn6
  clear hb5 hro hrs hb6 hx6 hw6 hn6
  go_upto_region 4 with fail
  rw [show w5.alloc (.cells #[.int .i64 rk, .string (strB rt), .slice A5 rg.length c5, .string (strB rb)] 24) = w6 from HW6.out.symm, ← HN6.out]
  obtain ⟨zs, hzs⟩ : ∃ zs, zs = strB s := ⟨_, rfl⟩
  rw [← hzs]
  have HZS := Lib.hid hzs
  have zl1 : zs.size ≤ 1300 := by rw [hzs, strB_size]; exact HSL.out.2
  have zl2 : 10 ≤ zs.size := by rw [hzs, strB_size]; exact HSL.out.1
  clear hzs
  go_wp2_with fail
  rw [show (zs ++ ⟨#[120]⟩ : ByteArray) = strB (s ++ [120]) by rw [HZS.out, strB_snoc]]
  refine (read_any (s ++ [120]) w6 (by have := HSL.out; simp; omega)).mono ?_
  rintro e w7 ⟨hb7, hres⟩
  rw [HMORE.out] at hres
  obtain rfl := only_none hres
  unfold recZ
  have hb8 : Below w7.heap.size w7 (w7.alloc (.cells #[.int .i64 0, .string ⟨#[]⟩, .slice none 0 0, .string ⟨#[]⟩] 24)) := (Below.refl _ _).alloc (Nat.le_refl _) _
  obtain ⟨w8, hw8⟩ : ∃ w8, w8 = w7.alloc (.cells #[.int .i64 0, .string ⟨#[]⟩, .slice none 0 0, .string ⟨#[]⟩] 24) := ⟨_, rfl⟩
  rw [← hw8] at hb8
  have B68 := Lib.hid (below_below hb7 hb7.size hb8)
  have HW8 := Lib.hid hw8
  clear hb7 hb8 hw8
  go_upto_region 5 with fail
  rw [show w7.alloc (.cells #[.int .i64 0, .string ⟨#[]⟩, .slice none 0 0, .string ⟨#[]⟩] 24) = w8 from HW8.out.symm]
  go_wp2_with fail
  rw [show zs.extract 0 (zs.size - 1) = strB (s.take (s.length - 1)) by rw [HZS.out, extract_eq, strB_size]]
  refine (read_any (s.take (s.length - 1)) w8 (by have := HSL.out; rw [List.length_take]; omega)).mono ?_
  rintro e w9 ⟨hb9, hres⟩
  rw [HLESS.out] at hres
  obtain rfl := only_none hres
  unfold recZ
  have hbA : Below w9.heap.size w9 (w9.alloc (.cells #[.int .i64 0, .string ⟨#[]⟩, .slice none 0 0, .string ⟨#[]⟩] 24)) := (Below.refl _ _).alloc (Nat.le_refl _) _
  obtain ⟨wA, hwA⟩ : ∃ wA, wA = w9.alloc (.cells #[.int .i64 0, .string ⟨#[]⟩, .slice none 0 0, .string ⟨#[]⟩] 24) := ⟨_, rfl⟩
  rw [← hwA] at hbA
  have B6A := Lib.hid (below_below B68.out B68.out.size (below_below hb9 hb9.size hbA))
  have B3A := Lib.hid (below_below B36.out B36.out.size B6A.out)
  have HWA := Lib.hid hwA
  clear hb9 hbA hwA
  go_upto_region 8 with fail
  rw [show w9.alloc (.cells #[.int .i64 0, .string ⟨#[]⟩, .slice none 0 0, .string ⟨#[]⟩] 24) = wA from HWA.out.symm]
  obtain ⟨g0, g1, g2, g3⟩ := HK3.out wA B3A.out
  obtain ⟨x0, x1, x2, x3⟩ := HK6.out wA B6A.out
  generalize strB rt = zt at *
  generalize strB rb = zb at *
  have GA := Lib.hid (HG3.out.below B3A.out)
  have GX := Lib.hid (HG6.out.below B6A.out)
  go_wp2_with fail
  refine (sameI_any A5 A' rg.length rg.length c5 c' rg rg wA rfl rfl (by have := HG.out; omega) GX.out GA.out).mono ?_
  rw [decide_eq_true (rfl : rg = rg)]
  rintro e wB ⟨rfl, hbB⟩
  have B3B := Lib.hid (below_below B3A.out B3A.out.size hbB)
  have B6B := Lib.hid (below_below B6A.out B6A.out.size hbB)
  clear g0 g1 g2 g3 x0 x1 x2 x3 hbB
  obtain ⟨g0, g1, g2, g3⟩ := HK3.out wB B3B.out
  obtain ⟨x0, x1, x2, x3⟩ := HK6.out wB B6B.out
  go_wp2_with fail
  refine (known_any wB).mono ?_
  rintro e wC ⟨rfl, hbC⟩
  have BC := Lib.hid (below_below B3.out B3.out.size (below_below B3B.out B3B.out.size hbC))
  clear hbC
  go_wp2_with fail
  go_ret
  exact ⟨rfl, BC.out⟩
end Go.Proofs.Ytjakhemolecbnaa
end
