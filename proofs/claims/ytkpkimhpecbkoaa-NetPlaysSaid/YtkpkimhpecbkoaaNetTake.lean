/-
  The walks of package net: Take, Drop, Twice, Pending.
-/
import Derived.Test.YtkpkimhpecbkoaaNetSend
set_option linter.unusedVariables false
set_option linter.unusedSimpArgs false
namespace Go.Proofs.Ytkpkimhpecbkoaa
open Go.RowKit

def zeroMsg : Value := .agg #[.int .i64 0, .int .i64 0, .slice none 0 0]
/-- What Take leaves where there is a message. -/
structure Took (w : World) (B p : Nat) (v : Value) (nodes sent : Int) (L : List Ms) (i : Nat) (f t : Int) (A : Option Addr) (c : Nat) (b : List UInt8) (w' : World) : Prop where
  net : ∃ v', v'.ownBlock = v.ownBlock ∧ NetAt w' B p v' nodes sent (L.eraseIdx i)
  msg : ∃ h : i < L.length, f = L[i].f ∧ t = L[i].t ∧ b = L[i].b
  body : BodyAt w' ⟨f, t, A, c, b⟩
  own : w'.ownsRow w.heap.size 5 1 (.slice A b.length c) b.length (bv b)
  new : ∀ ad, A = some ad → w.heap.size ≤ ad.block
  upd : Upd (nfoot p v) w w'

theorem NetAt.cut {w2 w3 : World} {B p g c i : Nat} {nodes sent : Int} {L : List Ms} (h : NetAt w2 B p (.slice (some ⟨g, 0, none⟩) L.length c) nodes sent L) (hi : i < L.length)
    (ho : w3.ownsRow B 47 3 (.slice (some ⟨g, 0, none⟩) (L.length - 1) c) (L.length - 1) (mcells (L.eraseIdx i))) (hu : Upd (fun q => q = g) w2 w3) :
    NetAt (w3.setCell ⟨p, 1, none⟩ (.slice (some ⟨g, 0, none⟩) (L.length - 1) c)) B p (.slice (some ⟨g, 0, none⟩) (L.length - 1) c) nodes sent (L.eraseIdx i) ∧
      Upd (nfoot p (.slice (some ⟨g, 0, none⟩) L.length c)) w2 (w3.setCell ⟨p, 1, none⟩ (.slice (some ⟨g, 0, none⟩) (L.length - 1) c)) ∧ w3.heap[p]? = w2.heap[p]? := by
  have hgp : ¬ (p = g) := fun e => h.ne (by simp [Value.ownBlock, e])
  have hp3 : w3.heap[p]? = w2.heap[p]? := hu.block p h.lt hgp
  have hu2 : Upd (nfoot p (.slice (some ⟨g, 0, none⟩) L.length c)) w2 (w3.setCell ⟨p, 1, none⟩ (.slice (some ⟨g, 0, none⟩) (L.length - 1) c)) :=
    (hu.mono (G := nfoot p (.slice (some ⟨g, 0, none⟩) L.length c)) (fun k _ hk => .inr (by simp [Value.ownBlock, hk]))).setCell (fun _ => .inl rfl) _
  have el : (L.eraseIdx i).length = L.length - 1 := List.length_eraseIdx_of_lt hi
  refine ⟨⟨?_, ?_, h.ne, fun m hm => ?_, by have := h.small; omega, h.base⟩, hu2, hp3⟩
  · rw [setCell_at (hp3.trans h.at_)]
    rfl
  · rw [el]
    exact own_setCell ho h.ne _
  · obtain ⟨h1, h2⟩ := h.body m (List.mem_of_mem_eraseIdx hm)
    exact ⟨h1.upd hu2 h2, h2⟩

set_option maxHeartbeats 1000000 in
theorem netTake_none (k : Int) (w : World) (B p : Nat) (v : Value) (nodes sent : Int) (h : NetAt w B p v nodes sent []) :
    Calls Try.prog 31 #[.pointer (some ⟨p, 0, none⟩), .int .i64 k] w fun e w' => e = .returned (.tuple #[zeroMsg, .bool false]) ∧ Below w.heap.size w w' := by
  have H := Lib.hid h
  have HA := Lib.hid (heap_alloc_new w (.cells #[.int .i64 0, .int .i64 0, .slice none 0 0] 47))
  clear h
  go_enter Try.func31, Try.ntmps31
  go_wp2_with fail
  refine (netFind_none k _ _ _ _ _ _ (H.out.below ((Below.refl _ _).alloc (Nat.le_refl _) _))).mono ?_
  rintro e w1 ⟨rfl, rfl⟩
  go_wp2_with fail
  try simp only [Exit.inBlock, Exit.then]
  refine bodyPost_ret (v := .tuple #[zeroMsg, .bool false]) ?_ rfl ?_
  · refine Eq.trans (results_row_tmp rfl _ _ w.heap.size 47 #[.int .i64 0, .int .i64 0, .slice none 0 0] (0, 0) _ rfl HA.out Try.underlying47 rfl infoMs) ?_
    rfl
  · exact ⟨rfl, (Below.refl _ _).alloc (Nat.le_refl _) _⟩

set_option maxHeartbeats 1000000 in
theorem netTake_any (k : Int) (w : World) (B p : Nat) (v : Value) (nodes sent : Int) (L : List Ms) (h : NetAt w B p v nodes sent L) (h0 : 0 < L.length) (hk0 : -9223372036854775808 ≤ k) (hk1 : k ≤ 9223372036854775807) :
    Calls Try.prog 31 #[.pointer (some ⟨p, 0, none⟩), .int .i64 k] w fun e w' => ∃ f t A c b, e = .returned (.tuple #[Ms.val ⟨f, t, A, c, b⟩, .bool true]) ∧ Took w B p v nodes sent L (placeOf k L.length) f t A c b w' := by
  obtain ⟨g, c0, rfl, hbg, hnc⟩ := own_form h.own h0
  have H := Lib.hid h
  have HA := Lib.hid (heap_alloc_new w (.cells #[.int .i64 0, .int .i64 0, .slice none 0 0] 47))
  obtain ⟨i, hi⟩ : ∃ i, i = placeOf k L.length := ⟨_, rfl⟩
  have hil : i < L.length := by rw [hi]; exact placeOf_lt k h0
  rw [← hi]
  have HI := Lib.hid hi
  clear hi h
  go_enter Try.func31, Try.ntmps31
  go_wp2_with fail
  have H1 := Lib.hid (H.out.below ((Below.refl _ _).alloc (Nat.le_refl _) (.cells #[.int .i64 0, .int .i64 0, .slice none 0 0] 47)))
  have hL := H.out.small
  refine (netFind_any k _ _ _ _ _ _ L H1.out h0 hk0 hk1).mono ?_
  rw [← HI.out]
  rintro e w1 ⟨rfl, rfl⟩
  have c1 := H1.out.c1
  have hg2 := mcells_get L i hil
  have q0 := H1.out.own.cellAt (i * 3) (by omega)
  have q1 := H1.out.own.cellAt (i * 3 + 1) (by omega)
  have q2 := H1.out.own.cellAt (i * 3 + 2) (by omega)
  rw [hg2.1] at q0
  rw [hg2.2.1] at q1
  rw [hg2.2.2] at q2
  have hm := H1.out.body L[i] (List.getElem_mem hil)
  have HM := Lib.hid hm
  have HE := Lib.hid (show L[i].f = L[i].f ∧ L[i].t = L[i].t ∧ L[i].b = L[i].b from ⟨rfl, rfl, rfl⟩)
  clear hg2 hm
  have i0 : (0 : Int) ≤ (i : Int) := by omega
  have i1 : (i : Int) < (L.length : Int) := by omega
  have i2 : ¬ ((i : Int) < 0) := by omega
  obtain ⟨mf, hmf⟩ : ∃ mf, mf = L[i].f := ⟨_, rfl⟩
  obtain ⟨mt, hmt⟩ : ∃ mt, mt = L[i].t := ⟨_, rfl⟩
  obtain ⟨mA, hmA⟩ : ∃ mA, mA = L[i].A := ⟨_, rfl⟩
  obtain ⟨mc, hmc⟩ : ∃ mc, mc = L[i].c := ⟨_, rfl⟩
  obtain ⟨mb, hmb⟩ : ∃ mb, mb = L[i].b := ⟨_, rfl⟩
  rw [← hmf] at q0
  rw [← hmt] at q1
  rw [← hmA, ← hmc, ← hmb] at q2
  have HM2 := Lib.hid (show BodyAt (w.alloc (.cells #[.int .i64 0, .int .i64 0, .slice none 0 0] 47)) ⟨mf, mt, mA, mc, mb⟩ by rw [hmf, hmt, hmA, hmc, hmb]; exact HM.out.1)
  have HOF := Lib.hid (show Ms.off ⟨mf, mt, mA, mc, mb⟩ (nfoot p (.slice (some ⟨g, 0, none⟩) L.length c0)) by rw [hmf, hmt, hmA, hmc, hmb]; exact HM.out.2)
  have HEQ := Lib.hid (show mf = L[i].f ∧ mt = L[i].t ∧ mb = L[i].b from ⟨hmf, hmt, hmb⟩)
  clear hmf hmt hmA hmc hmb HM HE
  go_upto_region 5 with fail
  have H2 := Lib.hid (H1.out.below ((Below.refl _ _).alloc (Nat.le_refl _) (.cells #[.int .i64 mf, .int .i64 mt, .slice mA mb.length mc] 47)))
  have d1 := H2.out.c1
  go_wp2_with fail
  refine (netDelete_any _ B g c0 i L H2.out.own hil hL).mono ?_
  rintro e w3 ⟨rfl, ho3, hu3⟩
  obtain ⟨hn3, hu2, hp3⟩ := H2.out.cut hil ho3 hu3
  have hp3' := hp3.trans H2.out.at_
  have e1 : w3.cell? ⟨p, 1, none⟩ = some (.slice (some ⟨g, 0, none⟩) L.length c0) := (cell_of_row w3 p 1 _ _ _ hp3').trans rfl
  have fr1 := frozen_of_row w3 p 1 _ _ hp3'
  have hlt := H.out.foot_lt
  have hs2 : ((w.alloc (.cells #[.int .i64 0, .int .i64 0, .slice none 0 0] 47)).alloc (.cells #[.int .i64 mf, .int .i64 mt, .slice mA mb.length mc] 47)).heap.size = w.heap.size + 2 := by simp
  have hx2 : ((w.alloc (.cells #[.int .i64 0, .int .i64 0, .slice none 0 0] 47)).alloc (.cells #[.int .i64 mf, .int .i64 mt, .slice mA mb.length mc] 47)).heap[w.heap.size + 1]? = some (.cells #[.int .i64 mf, .int .i64 mt, .slice mA mb.length mc] 47 (0, 0)) := by
    have h := heap_alloc_new (w.alloc (.cells #[.int .i64 0, .int .i64 0, .slice none 0 0] 47)) (.cells #[.int .i64 mf, .int .i64 mt, .slice mA mb.length mc] 47)
    simpa using h
  have hy2 : ((w.alloc (.cells #[.int .i64 0, .int .i64 0, .slice none 0 0] 47)).alloc (.cells #[.int .i64 mf, .int .i64 mt, .slice mA mb.length mc] 47)).heap[w.heap.size]? = some (.cells #[.int .i64 0, .int .i64 0, .slice none 0 0] 47 (0, 0)) :=
    (Below.heap_alloc _ _ _ (by simp)).trans HA.out
  have hb2 : Below w.heap.size w ((w.alloc (.cells #[.int .i64 0, .int .i64 0, .slice none 0 0] 47)).alloc (.cells #[.int .i64 mf, .int .i64 mt, .slice mA mb.length mc] 47)) := ((Below.refl _ _).alloc (Nat.le_refl _) _).alloc (by simp) _
  have hm2 := HM2.out.below ((Below.refl _ _).alloc (Nat.le_refl _) (.cells #[.int .i64 mf, .int .i64 mt, .slice mA mb.length mc] 47))
  have hm3 := hm2.upd hu2 HOF.out
  have hx3 := (hu2.block (w.heap.size + 1) (by rw [hs2]; omega) (fun hk => by have := hlt _ hk; omega)).trans hx2
  have hy3 := (hu2.block w.heap.size (by rw [hs2]; omega) (fun hk => by have := hlt _ hk; omega)).trans hy2
  have hub := Upd.of_below (F := nfoot p (.slice (some ⟨g, 0, none⟩) L.length c0)) hb2
  have hu4 := hub.trans hu2 (fun _ _ h => h)
  have HN3 := Lib.hid hn3
  have HM3 := Lib.hid hm3
  have HX3 := Lib.hid hx3
  have HY3 := Lib.hid hy3
  have HU4 := Lib.hid hu4
  have HS4 := Lib.hid (Nat.le_trans (Nat.le_of_eq hs2.symm) hu2.size)
  have HLT := Lib.hid hlt
  clear hn3 hm3 hx3 hy3 hu4 hub hu2 hm2 hb2 hx2 hy2 hs2 hlt ho3 hu3 hp3 hp3' c1 q0 q1 q2 d1
  go_upto_region 6 with fail
  obtain ⟨W4, hW4⟩ : ∃ W4, W4 = w3.setCell ⟨p, 1, none⟩ (.slice (some ⟨g, 0, none⟩) (L.length - 1) c0) := ⟨_, rfl⟩
  rw [← hW4] at HN3 HM3 HX3 HY3 HU4 HS4 ⊢
  clear hW4 e1 fr1
  have x0 : W4.cell? ⟨w.heap.size + 1, 0, none⟩ = some (.int .i64 mf) := (cell_of_row W4 _ 0 _ _ _ HX3.out).trans rfl
  have x1 : W4.cell? ⟨w.heap.size + 1, 1, none⟩ = some (.int .i64 mt) := (cell_of_row W4 _ 1 _ _ _ HX3.out).trans rfl
  have x2 : W4.cell? ⟨w.heap.size + 1, 2, none⟩ = some (.slice mA mb.length mc) := (cell_of_row W4 _ 2 _ _ _ HX3.out).trans rfl
  go_wp2_with fail
  refine (netCopied_any ⟨mf, mt, mA, mc, mb⟩ W4 HM3.out).mono ?_
  rintro e w5 ⟨A5, c5, rfl, hm5, hf5, ho5, hb5⟩
  unfold Ms.val
  simp only at *
  have hy5 := (hb5.block w.heap.size (by have := HS4.out; omega)).trans HY3.out
  have y0 : w5.cell? ⟨w.heap.size, 0, none⟩ = some (.int .i64 0) := (cell_of_row w5 _ 0 _ _ _ hy5).trans rfl
  have y1 : w5.cell? ⟨w.heap.size, 1, none⟩ = some (.int .i64 0) := (cell_of_row w5 _ 1 _ _ _ hy5).trans rfl
  have y2 : w5.cell? ⟨w.heap.size, 2, none⟩ = some (.slice none 0 0) := (cell_of_row w5 _ 2 _ _ _ hy5).trans rfl
  have z0 := frozen_of_row w5 w.heap.size 0 _ _ hy5
  have z1 := frozen_of_row w5 w.heap.size 1 _ _ hy5
  have z2 := frozen_of_row w5 w.heap.size 2 _ _ hy5
  have HY5 := Lib.hid hy5
  have HM5 := Lib.hid hm5
  have HF5 := Lib.hid hf5
  have HO5 := Lib.hid ho5
  have HB5 := Lib.hid hb5
  clear hy5 hm5 hf5 ho5 hb5 x0 x1 x2
  go_wp2_with fail
  try simp only [Exit.inBlock, Exit.then]
  have hu5 : Upd (fun k => k = w.heap.size) w5 (((w5.setCell ⟨w.heap.size, 0, none⟩ (.int .i64 mf)).setCell ⟨w.heap.size, 1, none⟩ (.int .i64 mt)).setCell ⟨w.heap.size, 2, none⟩ (.slice A5 mb.length c5)) :=
    (((Upd.refl (fun k => k = w.heap.size) w5).setCell (p := ⟨w.heap.size, 0, none⟩) (fun _ => rfl) _).setCell (p := ⟨w.heap.size, 1, none⟩) (fun _ => rfl) _).setCell (p := ⟨w.heap.size, 2, none⟩) (fun _ => rfl) _
  refine bodyPost_ret (v := .tuple #[Ms.val ⟨mf, mt, A5, c5, mb⟩, .bool true]) ?_ rfl ?_
  · refine Eq.trans (results_row_tmp rfl _ _ w.heap.size 47 #[.int .i64 mf, .int .i64 mt, .slice A5 mb.length c5] (0, 0) _ rfl (by rw [setCell_at (setCell_at (setCell_at HY5.out _) _) _]; rfl) Try.underlying47 rfl infoMs) ?_
    rfl
  · have hs4 := HS4.out
    have hoff : Ms.off ⟨mf, mt, A5, c5, mb⟩ (fun k => k = w.heap.size) := fun _ ad e hk => by have := HF5.out ad e; omega
    have hn5 := (HN3.out.below HB5.out).upd hu5 (fun k hk e => by have := HLT.out k (by rcases hk with hk | hk; exact .inl hk; exact .inr hk); omega) (fun m hm h0 ad e hk => by have := (H.out.body m (List.mem_of_mem_eraseIdx hm)).1.lt h0 ad e; omega)
    refine ⟨mf, mt, A5, c5, mb, rfl, ⟨⟨.slice (some ⟨g, 0, none⟩) (L.length - 1) c0, rfl, hn5⟩, ⟨hil, HEQ.out⟩, HM5.out.upd hu5 hoff, own_upd (own_lower HO5.out (by omega)) hu5 (fun k hk e => by have := HO5.out.lt k hk; omega), fun ad e => by have := HF5.out ad e; omega, ?_⟩⟩
    exact ((HU4.out.trans (Upd.of_below (F := nfoot p (.slice (some ⟨g, 0, none⟩) L.length c0)) HB5.out) (fun _ _ h => h)).trans hu5 (fun k hk e => by omega))

set_option maxHeartbeats 1000000 in
theorem netDrop_none (k : Int) (w : World) (B p : Nat) (v : Value) (nodes sent : Int) (h : NetAt w B p v nodes sent []) :
    Calls Try.prog 34 #[.pointer (some ⟨p, 0, none⟩), .int .i64 k] w fun e w' => e = .returned (.bool false) ∧ Below w.heap.size w w' := by
  have H := Lib.hid h
  clear h
  go_enter Try.func34, Try.ntmps34
  go_wp2_with fail
  refine (netTake_none k _ _ _ _ _ _ H.out).mono ?_
  rintro e w1 ⟨rfl, hb⟩
  have HB := Lib.hid hb
  clear hb
  unfold zeroMsg
  go_wp2_with fail
  go_ret
  exact ⟨rfl, HB.out.alloc HB.out.size _⟩

set_option maxHeartbeats 1000000 in
theorem netDrop_any (k : Int) (w : World) (B p : Nat) (v : Value) (nodes sent : Int) (L : List Ms) (h : NetAt w B p v nodes sent L) (h0 : 0 < L.length) (hk0 : -9223372036854775808 ≤ k) (hk1 : k ≤ 9223372036854775807) :
    Calls Try.prog 34 #[.pointer (some ⟨p, 0, none⟩), .int .i64 k] w fun e w' => e = .returned (.bool true) ∧ (∃ v', v'.ownBlock = v.ownBlock ∧ NetAt w' B p v' nodes sent (L.eraseIdx (placeOf k L.length))) ∧ Upd (nfoot p v) w w' := by
  have H := Lib.hid h
  clear h
  go_enter Try.func34, Try.ntmps34
  go_wp2_with fail
  refine (netTake_any k _ _ _ _ _ _ L H.out h0 hk0 hk1).mono ?_
  rintro e w1 ⟨f, t, A, c, b, rfl, ht⟩
  have HT := Lib.hid ht
  clear ht
  unfold Ms.val
  simp only
  go_wp2_with fail
  go_ret
  obtain ⟨v', hv', hn⟩ := HT.out.net
  exact ⟨rfl, ⟨v', hv', hn.below ((Below.refl _ _).alloc (Nat.le_refl _) _)⟩, HT.out.upd.alloc _⟩

end Go.Proofs.Ytkpkimhpecbkoaa
