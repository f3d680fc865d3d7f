/-
  The walks of the reference's net: Send, Twice, Take, Drop.
-/
import Derived.Test.YtkpkimhpecbkoaaRefNet
import Derived.Test.YtkpkimhpecbkoaaOutline
set_option linter.unusedVariables false
set_option linter.unusedSimpArgs false
namespace Go.Proofs.Ytkpkimhpecbkoaa
open Go.RowKit

/-- What a call that turns the reference's net leaves. -/
structure RTurned (w : World) (B q : Nat) (u : Value) (nodes sent : Int) (l : List Pl) (u' : Value) (w' : World) : Prop where
  net : RNet w' B q u' nodes sent l
  upd : Upd (nfoot q u) w w'
  blk : ∀ k, u'.ownBlock = some k → u.ownBlock = some k ∨ w.heap.size ≤ k

/-- A row laid anew in the net's field. -/
theorem RNet.put {w w6 : World} {B q : Nat} {u u6 : Value} {nodes sent : Int} {l l6 : List Pl} (h : RNet w B q u nodes sent l) (x : Upd (fun k => u.ownBlock = some k) w w6) (ho : w6.ownsRow B 65 3 u6 l6.length (rcells l6))
    (hv : u6.ownBlock = u.ownBlock ∨ ∃ k, u6.ownBlock = some k ∧ w.heap.size ≤ k) (hl : l6.length ≤ 512) : RTurned w B q u nodes sent l6 u6 (w6.setCell ⟨q, 1, none⟩ u6) := by
  have hat := (x.block q h.lt (fun e => h.ne e)).trans h.at_
  have hne : u6.ownBlock ≠ some q := by
    rcases hv with e | ⟨k, e, hk⟩
    · rw [e]; exact h.ne
    · rw [e]
      intro e2
      have := h.lt
      have := Option.some.inj e2
      omega
  refine ⟨⟨?_, own_setCell ho hne _, hne, hl, h.base⟩, (x.mono (G := nfoot q u) (fun k _ hk => .inr hk)).setCell (fun _ => .inl rfl) _, ?_⟩
  · rw [setCell_at hat]
    rfl
  · intro k hk
    rcases hv with e | ⟨k2, e, hk2⟩
    · exact .inl (e ▸ hk)
    · rw [e] at hk
      have := Option.some.inj hk
      exact .inr (by omega)
theorem RTurned.setSent {w w' : World} {B q : Nat} {u u' : Value} {nodes sent : Int} {l : List Pl} (h : RTurned w B q u nodes sent l u' w') (s : Int) : RTurned w B q u nodes s l u' (w'.setCell ⟨q, 2, none⟩ (.int .i64 s)) := by
  refine ⟨⟨?_, own_setCell h.net.own h.net.ne _, h.net.ne, h.net.small, h.net.base⟩, h.upd.setCell (fun _ => .inl rfl) _, h.blk⟩
  rw [setCell_at h.net.at_]
  rfl

set_option maxHeartbeats 2000000 in
theorem refSend_any (w : World) (B p : Nat) (v : Value) (nodes sent : Int) (L : List Pl) (h : RNet w B p v nodes sent L) (f t : Int) (s : ByteArray) (h1 : 0 ≤ f) (h2 : f < nodes) (h3 : 0 ≤ t) (h4 : t < nodes) (hf : L.length < 512) (hs0 : 0 ≤ sent) (hs1 : sent ≤ 1000000000) :
    Calls Try.prog 35 #[.pointer (some ⟨p, 0, none⟩), .int .i64 f, .int .i64 t, .string s] w fun e w' => ∃ v', e = .returned (.int .i64 0) ∧ RTurned w B p v nodes (sent + 1) (L ++ [(f, t, s.data.toList)]) v' w' := by
  obtain ⟨A0, c0, rfl, _⟩ := own_slice h.own
  have h0 := h.c0
  have h5 := h.c1
  have h6 := h.c2
  have H := Lib.hid h
  have g1 := h.f0 1
  have g2 := h.f0 2
  clear h
  have hf' : ¬ ((512 : Int) ≤ (L.length : Int)) := by omega
  go_enter Try.func35, Try.ntmps35
  go_wp2_with (at_builtin; refine append_any rfl _ _ 60 rfl B 65 _ 3 32 Try.underlying60 infoRm rfl (by omega) (by omega) (.slice A0 L.length c0) L.length (rcells L) rfl (World.ownsRow.alloc H.out.own _) _ 1 _ (rcells [(f, t, s.data.toList)]) rfl rfl ?r1 (rcells_one _) (by omega) ?c2 ?_)
  case r1 =>
    have e : rcells [(f, t, s.data.toList)] = [.int .i64 f, .int .i64 t, .string s] := by
      show [Value.int .i64 f, Value.int .i64 t, Value.string ⟨s.data.toList.toArray⟩] = _
      rw [show (⟨s.data.toList.toArray⟩ : ByteArray) = s by cases s; simp]
    rw [e]
    exact RC_newL w _ 65
  case c2 => have := H.out.base; have := H.out.lt; simp; omega
  intro v6 w6 ho6 hg6 hv6
  have hx : Upd (fun k => (Value.slice A0 L.length c0).ownBlock = some k) w w6 := ((Upd.refl (fun k => (Value.slice A0 L.length c0).ownBlock = some k) w).alloc _).grown hg6 (fun k hk _ => hk)
  obtain ⟨A6, c6, rfl, _⟩ := own_slice ho6
  have hT := H.out.put (l6 := L ++ [(f, t, s.data.toList)]) hx (by rw [rcells_append, List.length_append]; exact ho6) (hv6.imp id (fun e => ⟨_, e, by simp⟩)) (by simp; omega)
  have hat := (hx.block p H.out.lt (fun e => H.out.ne e)).trans H.out.at_
  have l1 : w6.cell? ⟨p, 1, none⟩ = some (.slice A0 L.length c0) := (cell_of_row w6 p 1 _ _ _ hat).trans rfl
  have l2 : w6.cell? ⟨p, 2, none⟩ = some (.int .i64 sent) := (cell_of_row w6 p 2 _ _ _ hat).trans rfl
  have m1 := frozen_of_row w6 p 1 _ _ hat
  have m2 := frozen_of_row w6 p 2 _ _ hat
  have HT := Lib.hid hT
  clear ho6 hg6 hv6 hx hT hat h5 h6 g1 g2
  go_wp2_with fail
  go_ret
  exact ⟨_, rfl, HT.out.setSent _⟩

set_option maxHeartbeats 1000000 in
theorem refTwice_none (k : Int) (w : World) (B p : Nat) (v : Value) (nodes sent : Int) (h : RNet w B p v nodes sent []) :
    Calls Try.prog 39 #[.pointer (some ⟨p, 0, none⟩), .int .i64 k] w fun e w' => e = .returned (.bool false) ∧ w = w' := by
  obtain ⟨A0, c0, rfl, _⟩ := own_slice h.own
  have H := Lib.hid h
  have h1 := h.c1
  clear h
  go_enter Try.func39, Try.ntmps39
  go_wp2_with fail
  refine (refAt_none k _ _ _ _ _ _ H.out).mono ?_
  rintro e w1 ⟨rfl, rfl⟩
  go_wp2_with fail
  go_ret
  exact ⟨rfl, rfl⟩

set_option maxHeartbeats 1000000 in
theorem refTwice_full (k : Int) (w : World) (B p : Nat) (v : Value) (nodes sent : Int) (L : List Pl) (h : RNet w B p v nodes sent L) (h0 : 512 ≤ L.length) (hk0 : -9223372036854775808 ≤ k) (hk1 : k ≤ 9223372036854775807) :
    Calls Try.prog 39 #[.pointer (some ⟨p, 0, none⟩), .int .i64 k] w fun e w' => e = .returned (.bool false) ∧ w = w' := by
  obtain ⟨A0, c0, rfl, _⟩ := own_slice h.own
  have H := Lib.hid h
  have h1 := h.c1
  have hl : (512 : Int) ≤ (L.length : Int) := by omega
  clear h
  go_enter Try.func39, Try.ntmps39
  go_wp2_with fail
  refine (refAt_any k _ _ _ _ _ _ L H.out (by omega) hk0 hk1).mono ?_
  rintro e w1 ⟨rfl, rfl⟩
  generalize placeOf k L.length = q
  have hq : ¬ ((q : Int) < 0) := by omega
  go_wp2_with fail
  go_ret
  exact ⟨rfl, rfl⟩

set_option maxRecDepth 100000 in
set_option maxHeartbeats 4000000 in
theorem refTwice_any (k : Int) (w : World) (B p : Nat) (v : Value) (nodes sent : Int) (L : List Pl) (h : RNet w B p v nodes sent L) (h0 : 0 < L.length) (hf : L.length < 512) (hk0 : -9223372036854775808 ≤ k) (hk1 : k ≤ 9223372036854775807) :
    Calls Try.prog 39 #[.pointer (some ⟨p, 0, none⟩), .int .i64 k] w fun e w' => ∃ v', e = .returned (.bool true) ∧ RTurned w B p v nodes sent (L ++ [L[placeOf k L.length]'(placeOf_lt k h0)]) v' w' := by
  obtain ⟨g, c0, rfl, hbg, hnc⟩ := own_form h.own h0
  have H := Lib.hid h
  obtain ⟨i, hi⟩ : ∃ i, i = placeOf k L.length := ⟨_, rfl⟩
  have hil : i < L.length := by rw [hi]; exact placeOf_lt k h0
  obtain ⟨m, hm⟩ : ∃ m, m = L[placeOf k L.length]'(placeOf_lt k h0) := ⟨_, rfl⟩
  have hm2 : L[i] = m := by rw [hm]; simp only [hi]
  rw [← hm]
  have HI := Lib.hid hi
  have c1 := h.c1
  have hg2 := rcells_get L i hil
  rw [hm2] at hg2
  have q0 := h.own.cellAt (i * 3) (by omega)
  have q1 := h.own.cellAt (i * 3 + 1) (by omega)
  have q2 := h.own.cellAt (i * 3 + 2) (by omega)
  rw [hg2.1] at q0
  rw [hg2.2.1] at q1
  rw [hg2.2.2] at q2
  have g1 := h.f0 1
  obtain ⟨mf, mt, mb⟩ := m
  simp only at q0 q1 q2
  obtain ⟨z, hz⟩ : ∃ z : ByteArray, z = ⟨mb.toArray⟩ := ⟨_, rfl⟩
  rw [← hz] at q2
  have HZ := Lib.hid (show rcells [(mf, mt, mb)] = [.int .i64 mf, .int .i64 mt, .string z] by rw [hz]; rfl)
  clear hi h hg2 hm hm2 hz
  have i0 : (0 : Int) ≤ (i : Int) := by omega
  have i1 : (i : Int) < (L.length : Int) := by omega
  have i2 : ¬ ((i : Int) < 0) := by omega
  have i3 : ¬ ((512 : Int) ≤ (L.length : Int)) := by omega
  go_enter Try.func39, Try.ntmps39
  go_wp2_with fail
  refine (refAt_any k _ _ _ _ _ _ L H.out h0 hk0 hk1).mono ?_
  rw [← HI.out]
  rintro e w1 ⟨rfl, rfl⟩
  have c1a : ∀ ob, (w.drew.alloc ob).cell? ⟨p, 1, none⟩ = some (.slice (some ⟨g, 0, none⟩) L.length c0) := fun ob => Lib.cell?_alloc_some ob c1
  have c1b : ∀ ob, (w.alloc ob).cell? ⟨p, 1, none⟩ = some (.slice (some ⟨g, 0, none⟩) L.length c0) := fun ob => Lib.cell?_alloc_some ob c1
  have hpl : p < w.heap.size := H.out.lt
  go_upto_region 4 with fail
  go_region_law (refine step_append_any rfl (.tmp 23) (.tmp 31) 60 rfl B 65 _ 3 32 Try.underlying60 infoRm rfl (by omega) (by omega) (.slice (some ⟨g, 0, none⟩) L.length c0) _ _ (by simp [Act.eval, Act.put]) (World.ownsRow.alloc (H.out.below ((Below.refl _ _).drew)).own _) _ 1 _ [.int .i64 mf, .int .i64 mt, .string z] (by simp [Act.eval, Act.put]; rfl) rfl (RC_newL w.drew [.int .i64 mf, .int .i64 mt, .string z] 65) (by rw [← HZ.out]; exact rcells_one _) (by omega) (by have := H.out.base; have := H.out.lt; simp; omega) ?_; intro v6 w6 ho6 hg6 hv6; obtain ⟨A6, c6, rfl, _⟩ := own_slice ho6; have hx := ((Upd.refl (fun k => (Value.slice (some ⟨g, 0, none⟩) L.length c0).ownBlock = some k) w).drew.alloc _).grown hg6 (fun k hk _ => hk); have hat := (hx.block p H.out.lt (fun e => H.out.ne e)).trans H.out.at_; have l1 : w6.cell? ⟨p, 1, none⟩ = some (.slice (some ⟨g, 0, none⟩) L.length c0) := (cell_of_row w6 p 1 _ _ _ hat).trans rfl; have m1 := frozen_of_row w6 p 1 _ _ hat)
  all_goals
    have HT := Lib.hid (H.out.put (l6 := L ++ [(mf, mt, mb)]) hx (by rw [rcells_append, List.length_append, HZ.out]; exact ho6) (hv6.imp id (fun e => ⟨_, e, by simp⟩)) (by simp; omega))
    clear ho6 hg6 hv6 hx hat
    go_wp2_with fail
    go_ret
    exact ⟨_, rfl, HT.out⟩

end Go.Proofs.Ytkpkimhpecbkoaa
