/-
  The walks of the reference's net: Take, Drop.
-/
import Derived.Test.YtkpkimhpecbkoaaRefNet2
set_option linter.unusedVariables false
set_option linter.unusedSimpArgs false
namespace Go.Proofs.Ytkpkimhpecbkoaa
open Go.RowKit

theorem infoRm3 : (Try.prog.info? 65).map (·.size) = some 3 := by kernel_rfl
def zeroRm : Value := .agg #[.int .i64 0, .int .i64 0, .string ⟨#[]⟩]

set_option maxHeartbeats 1000000 in
theorem refTake_none (k : Int) (w : World) (B p : Nat) (v : Value) (nodes sent : Int) (h : RNet w B p v nodes sent []) :
    Calls Try.prog 36 #[.pointer (some ⟨p, 0, none⟩), .int .i64 k] w fun e w' => e = .returned (.tuple #[zeroRm, .bool false]) ∧ Below w.heap.size w w' := by
  have H := Lib.hid h
  have HA := Lib.hid (heap_alloc_new w (.cells #[.int .i64 0, .int .i64 0, .string ⟨#[]⟩] 65))
  clear h
  go_enter Try.func36, Try.ntmps36
  go_wp2_with fail
  refine (refAt_none k _ _ _ _ _ _ (H.out.below ((Below.refl _ _).alloc (Nat.le_refl _) _))).mono ?_
  rintro e w1 ⟨rfl, rfl⟩
  go_wp2_with fail
  try simp only [Exit.inBlock, Exit.then]
  refine bodyPost_ret (v := .tuple #[zeroRm, .bool false]) ?_ rfl ?_
  · refine Eq.trans (results_row_tmp rfl _ _ w.heap.size 65 #[.int .i64 0, .int .i64 0, .string ⟨#[]⟩] (0, 0) _ rfl HA.out Try.underlying65 rfl infoRm3) ?_
    rfl
  · exact ⟨rfl, (Below.refl _ _).alloc (Nat.le_refl _) _⟩

set_option maxHeartbeats 1000000 in
theorem refDrop_none (k : Int) (w : World) (B p : Nat) (v : Value) (nodes sent : Int) (h : RNet w B p v nodes sent []) :
    Calls Try.prog 38 #[.pointer (some ⟨p, 0, none⟩), .int .i64 k] w fun e w' => e = .returned (.bool false) ∧ Below w.heap.size w w' := by
  have H := Lib.hid h
  clear h
  go_enter Try.func38, Try.ntmps38
  go_wp2_with fail
  refine (refTake_none k _ _ _ _ _ _ H.out).mono ?_
  rintro e w1 ⟨rfl, hb⟩
  have HB := Lib.hid hb
  clear hb
  unfold zeroRm
  go_wp2_with fail
  go_ret
  exact ⟨rfl, HB.out.alloc HB.out.size _⟩

theorem RC.drop0 {w : World} {g : Nat} {cs : List Value} (h : RC w (some ⟨g, 0, none⟩) cs) (k : Nat) : RC w (some ⟨g, k, none⟩) (cs.drop k) := by
  intro h0
  have hk : 0 < cs.length := by rw [List.length_drop] at h0; omega
  obtain ⟨ad, e, hc⟩ := h hk
  obtain rfl : ad = ⟨g, 0, none⟩ := by simpa using e.symm
  refine ⟨_, rfl, fun j u hj => ?_⟩
  rw [List.getElem?_drop] at hj
  have := hc _ u hj
  rw [add_off] at this ⊢
  rwa [Nat.zero_add] at this

theorem RTurned.after {F : Nat → Prop} {w w' w'' : World} {B q : Nat} {u u' : Value} {nodes sent : Int} {l : List Pl} (h : RTurned w B q u nodes sent l u' w') (x : Upd F w' w'') (hF : ∀ k, nfoot q u' k → ¬ F k) (hF2 : ∀ k, k < w.heap.size → ¬ F k) : RTurned w B q u nodes sent l u' w'' :=
  ⟨h.net.upd x hF, h.upd.trans x (fun k hk hf => absurd hf (hF2 k hk)), h.blk⟩

set_option maxRecDepth 100000 in
set_option maxHeartbeats 4000000 in
theorem refTake_any (k : Int) (w : World) (B p : Nat) (v : Value) (nodes sent : Int) (L : List Pl) (h : RNet w B p v nodes sent L) (h0 : 0 < L.length) (hk0 : -9223372036854775808 ≤ k) (hk1 : k ≤ 9223372036854775807) :
    Calls Try.prog 36 #[.pointer (some ⟨p, 0, none⟩), .int .i64 k] w fun e w' => ∃ v' f t b, L[placeOf k L.length]? = some (f, t, b) ∧ e = .returned (.tuple #[.agg #[.int .i64 f, .int .i64 t, .string ⟨b.toArray⟩], .bool true]) ∧ RTurned w B p v nodes sent (L.eraseIdx (placeOf k L.length)) v' w' := by
  obtain ⟨g, c0, rfl, hbg, hnc⟩ := own_form h.own h0
  have H := Lib.hid h
  have HA := Lib.hid (heap_alloc_new w (.cells #[.int .i64 0, .int .i64 0, .string ⟨#[]⟩] 65))
  obtain ⟨i, hi⟩ : ∃ i, i = placeOf k L.length := ⟨_, rfl⟩
  have hil : i < L.length := by rw [hi]; exact placeOf_lt k h0
  rw [← hi]
  have HI := Lib.hid hi
  clear hi h
  go_enter Try.func36, Try.ntmps36
  go_wp2_with fail
  have H1 := Lib.hid (H.out.below ((Below.refl _ _).alloc (Nat.le_refl _) (.cells #[.int .i64 0, .int .i64 0, .string ⟨#[]⟩] 65)))
  have hL := H.out.small
  refine (refAt_any k _ _ _ _ _ _ L H1.out h0 hk0 hk1).mono ?_
  rw [← HI.out]
  rintro e w1 ⟨rfl, rfl⟩
  obtain ⟨⟨mf, mt, mb⟩, hm⟩ : ∃ m, m = L[i] := ⟨_, rfl⟩
  have c1 := H1.out.c1
  have hg2 := rcells_get L i hil
  rw [← hm] at hg2
  have q0 := H1.out.own.cellAt (i * 3) (by omega)
  have q1 := H1.out.own.cellAt (i * 3 + 1) (by omega)
  have q2 := H1.out.own.cellAt (i * 3 + 2) (by omega)
  rw [hg2.1] at q0
  rw [hg2.2.1] at q1
  rw [hg2.2.2] at q2
  simp only at q0 q1 q2
  obtain ⟨z, hz⟩ : ∃ z : ByteArray, z = ⟨mb.toArray⟩ := ⟨_, rfl⟩
  rw [← hz] at q2
  have HZ := Lib.hid hz
  have HM := Lib.hid hm
  clear hg2 hm hz
  have i0 : (0 : Int) ≤ (i : Int) := by omega
  have i1 : (i : Int) < (L.length : Int) := by omega
  have i2 : ¬ ((i : Int) < 0) := by omega
  go_upto_region 5 with fail
  obtain ⟨W2, hW2⟩ : ∃ W2, W2 = (w.alloc (.cells #[.int .i64 0, .int .i64 0, .string ⟨#[]⟩] 65)).alloc (.cells #[.int .i64 mf, .int .i64 mt, .string z] 65) := ⟨_, rfl⟩
  have bel : Below w.heap.size w W2 := by rw [hW2]; exact ((Below.refl _ _).alloc (Nat.le_refl _) _).alloc (by simp) _
  have hs2 : W2.heap.size = w.heap.size + 2 := by rw [hW2]; simp
  have hx2 : W2.heap[w.heap.size + 1]? = some (.cells #[.int .i64 mf, .int .i64 mt, .string z] 65 (0, 0)) := by
    rw [hW2]
    have h := heap_alloc_new (w.alloc (.cells #[.int .i64 0, .int .i64 0, .string ⟨#[]⟩] 65)) (.cells #[.int .i64 mf, .int .i64 mt, .string z] 65)
    simpa using h
  have hy2 : W2.heap[w.heap.size]? = some (.cells #[.int .i64 0, .int .i64 0, .string ⟨#[]⟩] 65 (0, 0)) := by
    rw [hW2]
    exact (Below.heap_alloc _ _ _ (by simp)).trans HA.out
  have H2 := Lib.hid (H.out.below bel)
  have c2 := H2.out.c1
  have c2b : ∀ ob, (W2.alloc ob).cell? ⟨p, 1, none⟩ = some (.slice (some ⟨g, 0, none⟩) L.length c0) := fun ob => Lib.cell?_alloc_some ob c2
  have c2a : ∀ ob, (W2.drew.alloc ob).cell? ⟨p, 1, none⟩ = some (.slice (some ⟨g, 0, none⟩) L.length c0) := fun ob => Lib.cell?_alloc_some ob c2
  have hpl : p < W2.heap.size := H2.out.lt
  have hpw : p < w.heap.size := H.out.lt
  rw [← hW2]
  have HB := Lib.hid bel
  have HS := Lib.hid hs2
  have HX2 := Lib.hid hx2
  have HY2 := Lib.hid hy2
  have HR := Lib.hid (own_RC H2.out.own)
  have RT := Lib.hid (own_RC (own_take H2.out.own i (by omega)))
  have hrow : ∀ o, (W2.alloc o).heap[W2.heap.size]? = some o := fun o => heap_alloc_new W2 o
  have E0 := Lib.hid (show (W2.alloc (.cells #[] 65)).ownsRow W2.heap.size 65 3 (.slice (some ⟨W2.heap.size, 0, none⟩) 0 0) 0 [] from
    ⟨rfl, .inr ⟨_, 0, #[], rfl, Nat.le_refl _, heap_alloc_new W2 _, Nat.le_refl _, by simp [maxLen], rfl, rfl⟩⟩)
  clear q0 q1 q2 c1 hW2 bel hs2 hx2 hy2 hrow
  have b0 : i ≤ c0 := by omega
  have b1 : i + 1 ≤ L.length := hil
  have b2 : (((i : Int) + 1 ≤ (L.length : Int))) := by omega
  have b3 : (0 : Int) ≤ (i : Int) + 1 := by omega
  have hwr : IntKind.i64.wrap ((i : Int) + 1) = (i : Int) + 1 := by rw [IntKind.wrap_i64]; omega
  obtain ⟨Bx, hBx⟩ : ∃ Bx, Bx = W2.heap.size := ⟨_, rfl⟩
  by_cases hc : c0 = i + 1
  · subst hc
    have b4 : (i : Int) ≤ (i : Int) + 1 := by omega
    go_region_law (first
      | (refine step_append_any rfl (.tmp 29) (.tmp 36) 60 rfl W2.heap.size 65 _ 3 32 Try.underlying60 infoRm rfl (by omega) (by omega) (.slice A5 i c5) i (rcells (L.take i)) (by simp [Act.eval, Act.put]) ho5' (some ⟨g, 0, none⟩) (0) (0) (rcells (L.drop (i + 1))) (by simp [Act.eval, Act.put]) (by rw [rcells_length, List.length_drop]; try omega) (by rw [List.drop_of_length_le (by omega)]; exact RC.nil _ _) (rcells_one _) (by omega) (hx5.size) ?_; intro v6 w6 ho6 hg6 hv6; have hx6 := hx5.grown hg6 (fun k hk hlt => absurd hlt (by have := (ho5'.lt k hk).1; omega)); have k6 := (H2.out.upd hx6 (fun _ _ => id)).at_; have l6 : w6.cell? ⟨p, 1, none⟩ = some (.slice (some ⟨g, 0, none⟩) L.length (i + 1)) := (cell_of_row w6 p 1 _ _ _ k6).trans rfl; have m6 := frozen_of_row w6 p 1 _ _ k6; obtain ⟨A6, c6, rfl, _⟩ := own_slice ho6; rw [Nat.add_zero] at ho6 hv6)
      | (refine step_append_any rfl (.tmp 22) (.tmp 28) 60 rfl W2.heap.size 65 _ 3 32 Try.underlying60 infoRm rfl (by omega) (by omega) (.slice (some ⟨W2.heap.size, 0, none⟩) 0 0) 0 [] (by simp [Act.eval, Act.put]) E0.out (some ⟨g, 0, none⟩) i (i + 1) (rcells (L.take i)) (by simp [Act.eval, Act.put]) (by rw [rcells_length, List.length_take]; omega) (by rw [← rcells_take]; exact (RT.out.below ((Below.refl _ _).alloc (Nat.le_refl _) _)).below ((Below.refl _ _).drew)) (rcells_one _) (by omega) (by show W2.heap.size ≤ (W2.alloc _).heap.size; simp) ?_; intro v5 w5 ho5 hg5 hv5; have hx5 : Upd (fun _ => False) W2 w5 := ((Upd.refl (fun _ => False) W2).alloc (.cells #[] 65)).drew.grown hg5 (fun k hk hlt => absurd hlt (by have := Option.some.inj (show some W2.heap.size = some k from hk); omega)); have k5 := (H2.out.upd hx5 (fun _ _ => id)).c1; obtain ⟨A5, c5, rfl, _⟩ := own_slice ho5; have ho5' : w5.ownsRow W2.heap.size 65 3 (.slice A5 i c5) i (rcells (L.take i)) := (by simpa using ho5); rw [Nat.zero_add] at hv5; clear hg5 ho5))
    all_goals
      have hel : (L.eraseIdx i).length = i := by rw [List.length_eraseIdx_of_lt hil]; omega
      have hU : Upd (fun k => (Value.slice (some ⟨g, 0, none⟩) L.length (i + 1)).ownBlock = some k) w w6 := (Upd.of_below HB.out).trans hx6 (fun _ _ h => h.elim)
      have hkb : ∃ k, (Value.slice A6 (i) c6).ownBlock = some k ∧ w.heap.size + 2 ≤ k := by
        rcases hv6 with e | e
        · rcases hv5 with e5 | e5
          · exact ⟨W2.heap.size, e.trans e5, by have := HS.out; omega⟩
          · exact ⟨_, e.trans e5, by have := HS.out; show w.heap.size + 2 ≤ (W2.alloc (.cells #[] 65)).heap.size; simp; omega⟩
        · exact ⟨w5.heap.size, e, by have := hx5.size; have := HS.out; omega⟩
      have hT := H.out.put (l6 := L.eraseIdx i) hU (by rw [hel, List.eraseIdx_eq_take_drop_succ, rcells_append]; exact own_lower ho6 (by have := H.out.base; omega)) (.inr (hkb.imp fun k h => ⟨h.1, by omega⟩)) (by rw [hel]; omega)
      have s6 := hx6.size
      have hx6' := (hx6.block (w.heap.size + 1) (by have := HS.out; omega) id).trans HX2.out
      have hy6' := (hx6.block w.heap.size (by have := HS.out; omega) id).trans HY2.out
      have HKB := Lib.hid hkb
      obtain ⟨W4, hW4⟩ : ∃ W4, W4 = w6.setCell ⟨p, 1, none⟩ (.slice A6 (i) c6) := ⟨_, rfl⟩
      rw [← hW4] at hT ⊢
      have hU4 : Upd (fun k => k = p) w6 W4 := by rw [hW4]; exact (Upd.refl (fun k => k = p) w6).setCell (p := ⟨p, 1, none⟩) (fun _ => rfl) _
      have hx4 := (hU4.block (w.heap.size + 1) (by have := HS.out; omega) (by omega)).trans hx6'
      have hy4 := (hU4.block w.heap.size (by have := HS.out; omega) (by omega)).trans hy6'
      have x0 : W4.cell? ⟨w.heap.size + 1, 0, none⟩ = some (.int .i64 mf) := (cell_of_row W4 _ 0 _ _ _ hx4).trans rfl
      have x1 : W4.cell? ⟨w.heap.size + 1, 1, none⟩ = some (.int .i64 mt) := (cell_of_row W4 _ 1 _ _ _ hx4).trans rfl
      have x2 : W4.cell? ⟨w.heap.size + 1, 2, none⟩ = some (.string z) := (cell_of_row W4 _ 2 _ _ _ hx4).trans rfl
      have y0 : W4.cell? ⟨w.heap.size, 0, none⟩ = some (.int .i64 0) := (cell_of_row W4 _ 0 _ _ _ hy4).trans rfl
      have y1 : W4.cell? ⟨w.heap.size, 1, none⟩ = some (.int .i64 0) := (cell_of_row W4 _ 1 _ _ _ hy4).trans rfl
      have y2 : W4.cell? ⟨w.heap.size, 2, none⟩ = some (.string ⟨#[]⟩) := (cell_of_row W4 _ 2 _ _ _ hy4).trans rfl
      have z0 := frozen_of_row W4 w.heap.size 0 _ _ hy4
      have z1 := frozen_of_row W4 w.heap.size 1 _ _ hy4
      have z2 := frozen_of_row W4 w.heap.size 2 _ _ hy4
      have HT := Lib.hid hT
      have HY4 := Lib.hid hy4
      clear hT hy4 hx4 hU4 hW4 hkb hx6' hy6' hU hel hx6 hx5 hv5 hv6 ho6 hg6 ho5' k5 k6 l6 m6 c2 c2a c2b
      go_wp2_with fail
      try simp only [Exit.inBlock, Exit.then]
      have hu5 : Upd (fun k => k = w.heap.size) W4 (((W4.setCell ⟨w.heap.size, 0, none⟩ (.int .i64 mf)).setCell ⟨w.heap.size, 1, none⟩ (.int .i64 mt)).setCell ⟨w.heap.size, 2, none⟩ (.string z)) :=
        (((Upd.refl (fun k => k = w.heap.size) W4).setCell (p := ⟨w.heap.size, 0, none⟩) (fun _ => rfl) _).setCell (p := ⟨w.heap.size, 1, none⟩) (fun _ => rfl) _).setCell (p := ⟨w.heap.size, 2, none⟩) (fun _ => rfl) _
      refine bodyPost_ret (v := .tuple #[.agg #[.int .i64 mf, .int .i64 mt, .string z], .bool true]) ?_ rfl ?_
      · refine Eq.trans (results_row_tmp rfl _ _ w.heap.size 65 #[.int .i64 mf, .int .i64 mt, .string z] (0, 0) _ rfl (by rw [setCell_at (setCell_at (setCell_at HY4.out _) _) _]; rfl) Try.underlying65 rfl infoRm3) ?_
        rfl
      · refine ⟨_, mf, mt, mb, by rw [List.getElem?_eq_getElem hil, ← HM.out], by rw [← HZ.out], HT.out.after hu5 ?_ (fun k hk e => by omega)⟩
        rintro k (hk | hk) e
        · omega
        · obtain ⟨k2, e2, hk2⟩ := HKB.out
          rw [e2] at hk
          have := Option.some.inj hk
          omega
  · go_region_law (first
      | (refine step_append_any rfl (.tmp 29) (.tmp 36) 60 rfl W2.heap.size 65 _ 3 32 Try.underlying60 infoRm rfl (by omega) (by omega) (.slice A5 i c5) i (rcells (L.take i)) (by simp [Act.eval, Act.put]) ho5' (some ⟨g, (i + 1) * 3, none⟩) (L.length - (i + 1)) (c0 - (i + 1)) (rcells (L.drop (i + 1))) (by simp [Act.eval, Act.put]) (by rw [rcells_length, List.length_drop]; try omega) (by rw [← rcells_drop]; exact ((HR.out.upd hx5 (fun _ _ _ => id)).drop0 _)) (rcells_one _) (by omega) (hx5.size) ?_; intro v6 w6 ho6 hg6 hv6; have hx6 := hx5.grown hg6 (fun k hk hlt => absurd hlt (by have := (ho5'.lt k hk).1; omega)); have k6 := (H2.out.upd hx6 (fun _ _ => id)).at_; have l6 : w6.cell? ⟨p, 1, none⟩ = some (.slice (some ⟨g, 0, none⟩) L.length (c0)) := (cell_of_row w6 p 1 _ _ _ k6).trans rfl; have m6 := frozen_of_row w6 p 1 _ _ k6; obtain ⟨A6, c6, rfl, _⟩ := own_slice ho6)
      | (refine step_append_any rfl (.tmp 22) (.tmp 28) 60 rfl W2.heap.size 65 _ 3 32 Try.underlying60 infoRm rfl (by omega) (by omega) (.slice (some ⟨W2.heap.size, 0, none⟩) 0 0) 0 [] (by simp [Act.eval, Act.put]) E0.out (some ⟨g, 0, none⟩) i (c0) (rcells (L.take i)) (by simp [Act.eval, Act.put]) (by rw [rcells_length, List.length_take]; omega) (by rw [← rcells_take]; exact (RT.out.below ((Below.refl _ _).alloc (Nat.le_refl _) _)).below ((Below.refl _ _).drew)) (rcells_one _) (by omega) (by show W2.heap.size ≤ (W2.alloc _).heap.size; simp) ?_; intro v5 w5 ho5 hg5 hv5; have hx5 : Upd (fun _ => False) W2 w5 := ((Upd.refl (fun _ => False) W2).alloc (.cells #[] 65)).drew.grown hg5 (fun k hk hlt => absurd hlt (by have := Option.some.inj (show some W2.heap.size = some k from hk); omega)); have k5 := (H2.out.upd hx5 (fun _ _ => id)).c1; obtain ⟨A5, c5, rfl, _⟩ := own_slice ho5; have ho5' : w5.ownsRow W2.heap.size 65 3 (.slice A5 i c5) i (rcells (L.take i)) := (by simpa using ho5); rw [Nat.zero_add] at hv5; clear hg5 ho5))
    all_goals
      have hel : (L.eraseIdx i).length = i + (L.length - (i + 1)) := by rw [List.length_eraseIdx_of_lt hil]; omega
      have hU : Upd (fun k => (Value.slice (some ⟨g, 0, none⟩) L.length (c0)).ownBlock = some k) w w6 := (Upd.of_below HB.out).trans hx6 (fun _ _ h => h.elim)
      have hkb : ∃ k, (Value.slice A6 (i + (L.length - (i + 1))) c6).ownBlock = some k ∧ w.heap.size + 2 ≤ k := by
        rcases hv6 with e | e
        · rcases hv5 with e5 | e5
          · exact ⟨W2.heap.size, e.trans e5, by have := HS.out; omega⟩
          · exact ⟨_, e.trans e5, by have := HS.out; show w.heap.size + 2 ≤ (W2.alloc (.cells #[] 65)).heap.size; simp; omega⟩
        · exact ⟨w5.heap.size, e, by have := hx5.size; have := HS.out; omega⟩
      have hT := H.out.put (l6 := L.eraseIdx i) hU (by rw [hel, List.eraseIdx_eq_take_drop_succ, rcells_append]; exact own_lower ho6 (by have := H.out.base; omega)) (.inr (hkb.imp fun k h => ⟨h.1, by omega⟩)) (by rw [hel]; omega)
      have s6 := hx6.size
      have hx6' := (hx6.block (w.heap.size + 1) (by have := HS.out; omega) id).trans HX2.out
      have hy6' := (hx6.block w.heap.size (by have := HS.out; omega) id).trans HY2.out
      have HKB := Lib.hid hkb
      obtain ⟨W4, hW4⟩ : ∃ W4, W4 = w6.setCell ⟨p, 1, none⟩ (.slice A6 (i + (L.length - (i + 1))) c6) := ⟨_, rfl⟩
      rw [← hW4] at hT ⊢
      have hU4 : Upd (fun k => k = p) w6 W4 := by rw [hW4]; exact (Upd.refl (fun k => k = p) w6).setCell (p := ⟨p, 1, none⟩) (fun _ => rfl) _
      have hx4 := (hU4.block (w.heap.size + 1) (by have := HS.out; omega) (by omega)).trans hx6'
      have hy4 := (hU4.block w.heap.size (by have := HS.out; omega) (by omega)).trans hy6'
      have x0 : W4.cell? ⟨w.heap.size + 1, 0, none⟩ = some (.int .i64 mf) := (cell_of_row W4 _ 0 _ _ _ hx4).trans rfl
      have x1 : W4.cell? ⟨w.heap.size + 1, 1, none⟩ = some (.int .i64 mt) := (cell_of_row W4 _ 1 _ _ _ hx4).trans rfl
      have x2 : W4.cell? ⟨w.heap.size + 1, 2, none⟩ = some (.string z) := (cell_of_row W4 _ 2 _ _ _ hx4).trans rfl
      have y0 : W4.cell? ⟨w.heap.size, 0, none⟩ = some (.int .i64 0) := (cell_of_row W4 _ 0 _ _ _ hy4).trans rfl
      have y1 : W4.cell? ⟨w.heap.size, 1, none⟩ = some (.int .i64 0) := (cell_of_row W4 _ 1 _ _ _ hy4).trans rfl
      have y2 : W4.cell? ⟨w.heap.size, 2, none⟩ = some (.string ⟨#[]⟩) := (cell_of_row W4 _ 2 _ _ _ hy4).trans rfl
      have z0 := frozen_of_row W4 w.heap.size 0 _ _ hy4
      have z1 := frozen_of_row W4 w.heap.size 1 _ _ hy4
      have z2 := frozen_of_row W4 w.heap.size 2 _ _ hy4
      have HT := Lib.hid hT
      have HY4 := Lib.hid hy4
      clear hT hy4 hx4 hU4 hW4 hkb hx6' hy6' hU hel hx6 hx5 hv5 hv6 ho6 hg6 ho5' k5 k6 l6 m6 c2 c2a c2b
      go_wp2_with fail
      try simp only [Exit.inBlock, Exit.then]
      have hu5 : Upd (fun k => k = w.heap.size) W4 (((W4.setCell ⟨w.heap.size, 0, none⟩ (.int .i64 mf)).setCell ⟨w.heap.size, 1, none⟩ (.int .i64 mt)).setCell ⟨w.heap.size, 2, none⟩ (.string z)) :=
        (((Upd.refl (fun k => k = w.heap.size) W4).setCell (p := ⟨w.heap.size, 0, none⟩) (fun _ => rfl) _).setCell (p := ⟨w.heap.size, 1, none⟩) (fun _ => rfl) _).setCell (p := ⟨w.heap.size, 2, none⟩) (fun _ => rfl) _
      refine bodyPost_ret (v := .tuple #[.agg #[.int .i64 mf, .int .i64 mt, .string z], .bool true]) ?_ rfl ?_
      · refine Eq.trans (results_row_tmp rfl _ _ w.heap.size 65 #[.int .i64 mf, .int .i64 mt, .string z] (0, 0) _ rfl (by rw [setCell_at (setCell_at (setCell_at HY4.out _) _) _]; rfl) Try.underlying65 rfl infoRm3) ?_
        rfl
      · refine ⟨_, mf, mt, mb, by rw [List.getElem?_eq_getElem hil, ← HM.out], by rw [← HZ.out], HT.out.after hu5 ?_ (fun k hk e => by omega)⟩
        rintro k (hk | hk) e
        · omega
        · obtain ⟨k2, e2, hk2⟩ := HKB.out
          rw [e2] at hk
          have := Option.some.inj hk
          omega

theorem refDrop_any (k : Int) (w : World) (B p : Nat) (v : Value) (nodes sent : Int) (L : List Pl) (h : RNet w B p v nodes sent L) (h0 : 0 < L.length) (hk0 : -9223372036854775808 ≤ k) (hk1 : k ≤ 9223372036854775807) :
    Calls Try.prog 38 #[.pointer (some ⟨p, 0, none⟩), .int .i64 k] w fun e w' => ∃ v', e = .returned (.bool true) ∧ RTurned w B p v nodes sent (L.eraseIdx (placeOf k L.length)) v' w' := by
  have H := Lib.hid h
  clear h
  go_enter Try.func38, Try.ntmps38
  go_wp2_with fail
  refine (refTake_any k _ _ _ _ _ _ L H.out h0 hk0 hk1).mono ?_
  rintro e w1 ⟨v1, f1, t1, b1, _, rfl, ht⟩
  have HT := Lib.hid ht
  clear ht
  generalize (⟨b1.toArray⟩ : ByteArray) = z1
  go_wp2_with fail
  go_ret
  exact ⟨_, rfl, HT.out.after (Upd.of_below (F := fun _ => False) ((Below.refl _ _).alloc (Nat.le_refl _) _)) (fun _ _ => id) (fun _ _ => id)⟩

end Go.Proofs.Ytkpkimhpecbkoaa
