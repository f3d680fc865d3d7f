/-
  The walks of package net: Send, Take, Drop, Twice, Pending.
-/
import Derived.Test.YtkpkimhpecbkoaaNet
import Derived.Test.YtkpkimhpecbkoaaOutline
import Derived.Lib.SliceRun
set_option linter.unusedVariables false
set_option linter.unusedSimpArgs false
namespace Go.Proofs.Ytkpkimhpecbkoaa
open Go.RowKit

theorem infoMs3 : (Try.prog.info? 47).map (fun i => (i.zero, i.size, i.bytes)) = some (some (.agg #[.int .i64 0, .int .i64 0, .slice none 0 0]), 3, 40) := by kernel_rfl
theorem off_new {w : World} {m : Ms} {p : Nat} {v : Value} (hp : p < w.heap.size) (hv : ∀ k, v.ownBlock = some k → k < w.heap.size) (h : ∀ ad, m.A = some ad → w.heap.size ≤ ad.block) : m.off (nfoot p v) := by
  intro _ ad e hk
  have h1 := h ad e
  rcases hk with hk | hk
  · omega
  · have := hv _ hk; omega

/-- A message laid behind the others. -/
theorem NetAt.grow {w w5 w6 : World} {B p : Nat} {v v6 : Value} {nodes sent : Int} {L : List Ms} {m : Ms} {ob : Obj} (hn : NetAt w5 B p v nodes sent L) (hf : L.length < 512) (hb : Below w.heap.size w w5) (hm : BodyAt w5 m)
    (hmo : ∀ ad, m.A = some ad → w.heap.size ≤ ad.block) (hlt : ∀ k, nfoot p v k → k < w.heap.size) (ho : w6.ownsRow B 47 3 v6 (L.length + 1) (mcells L ++ mcells [m])) (hg : (w5.alloc ob).grownBy w6 v.ownBlock)
    (hv : v6.ownBlock = v.ownBlock ∨ v6.ownBlock = some (w5.alloc ob).heap.size) :
    NetAt (w6.setCell ⟨p, 1, none⟩ v6) B p v6 nodes sent (L ++ [m]) ∧ Upd (nfoot p v) w (w6.setCell ⟨p, 1, none⟩ v6) ∧ (∀ k, v6.ownBlock = some k → v.ownBlock = some k ∨ w.heap.size ≤ k) ∧ ∀ q ∈ L ++ [m], q ∈ L ∨ ∀ ad, q.A = some ad → w.heap.size ≤ ad.block := by
  have hu : Upd (nfoot p v) w5 (w6.setCell ⟨p, 1, none⟩ v6) := (((Upd.refl _ w5).alloc ob).grown hg (fun k hk _ => .inr hk)).setCell (fun _ => .inl rfl) _
  have hp5 := hn.lt
  have hsz : (w5.alloc ob).heap.size = w5.heap.size + 1 := by simp
  have hws := hb.size
  have hat : w6.heap[p]? = some (.cells #[.int .i64 nodes, v, .int .i64 sent] 74 (0, 0)) := (hg.block p (by omega) (fun e => hn.ne e.symm)).trans ((Below.heap_alloc _ _ _ hp5).trans hn.at_)
  have hne : v6.ownBlock ≠ some p := by
    rcases hv with e | e
    · rw [e]; exact hn.ne
    · rw [e]; intro e2; cases e2; omega
  have hof : ∀ q : Ms, BodyAt w5 q → q.off (nfoot p v) → q.off (nfoot p v6) := by
    intro q hq ho h0 ad e hk
    rcases hk with hk | hk
    · exact ho h0 ad e (.inl hk)
    · rcases hv with e2 | e2
      · exact ho h0 ad e (.inr (e2 ▸ hk))
      · rw [e2] at hk
        have h1 := hq.lt h0 ad e
        have h2 : (w5.alloc ob).heap.size = ad.block := Option.some.inj hk
        omega
  have hmf : m.off (nfoot p v) := fun h0 ad e hk => by have := hmo ad e; have := hlt _ hk; omega
  refine ⟨⟨?_, ?_, hne, ?_, by simp; omega, hn.base⟩, ?_, ?_, ?_⟩
  · rw [setCell_at hat]
    rfl
  · rw [mcells_append, List.length_append]
    exact own_setCell ho hne _
  · intro q hq
    rcases List.mem_append.1 hq with hq | hq
    · obtain ⟨h1, h2⟩ := hn.body q hq
      exact ⟨h1.upd hu h2, hof q h1 h2⟩
    · obtain rfl := List.mem_singleton.1 hq
      exact ⟨hm.upd hu hmf, hof q hm hmf⟩
  · exact (Upd.of_below (F := nfoot p v) hb).trans hu (fun _ _ h => h)
  · intro k hk
    rcases hv with e | e
    · exact .inl (e ▸ hk)
    · rw [e] at hk; cases hk; exact .inr (by omega)
  · intro q hq
    rcases List.mem_append.1 hq with hq | hq
    · exact .inl hq
    · obtain rfl := List.mem_singleton.1 hq
      exact .inr hmo
theorem NetAt.setSent {w : World} {B p : Nat} {v : Value} {nodes sent : Int} {L : List Ms} (h : NetAt w B p v nodes sent L) (s : Int) : NetAt (w.setCell ⟨p, 2, none⟩ (.int .i64 s)) B p v nodes s L := by
  have hu : Upd (fun k => k = p) w (w.setCell ⟨p, 2, none⟩ (.int .i64 s)) 
    := Upd.setCell (Upd.refl (fun k => k = p) w) (p := ⟨p, 2, none⟩) (fun _ => rfl) _
  refine ⟨?_, own_setCell h.own h.ne _, h.ne, fun m hm => ⟨(h.body m hm).1.upd hu (Ms.off_mono (h.body m hm).2 (fun k hk => .inl hk)), (h.body m hm).2⟩, h.small, h.base⟩
  rw [setCell_at h.at_]
  rfl

set_option maxHeartbeats 1000000 in
theorem netSend_arg (w : World) (B p : Nat) (v : Value) (nodes sent : Int) (L : List Ms) (h : NetAt w B p v nodes sent L) (f t : Int) (A : Option Addr) (n c : Nat) (hb : f < 0 ∨ nodes ≤ f ∨ t < 0 ∨ nodes ≤ t) :
    Calls Try.prog 28 #[.pointer (some ⟨p, 0, none⟩), .int .i64 f, .int .i64 t, .slice A n c] w fun e w' => e = .returned (.int .i64 1) ∧ w = w' := by
  have h0 := h.c0
  clear h
  by_cases h1 : f < 0
  · clear hb
    go_enter Try.func28, Try.ntmps28
    go_wp2
    go_ret
    exact ⟨rfl, rfl⟩
  · by_cases h2 : nodes ≤ f
    · clear hb
      go_enter Try.func28, Try.ntmps28
      go_wp2
      go_ret
      exact ⟨rfl, rfl⟩
    · by_cases h3 : t < 0
      · clear hb
        go_enter Try.func28, Try.ntmps28
        go_wp2
        go_ret
        exact ⟨rfl, rfl⟩
      · have h4 : nodes ≤ t := by omega
        clear hb
        go_enter Try.func28, Try.ntmps28
        go_wp2
        go_ret
        exact ⟨rfl, rfl⟩

set_option maxHeartbeats 1000000 in
theorem netSend_full (w : World) (B p : Nat) (v : Value) (nodes sent : Int) (L : List Ms) (h : NetAt w B p v nodes sent L) (f t : Int) (A : Option Addr) (n c : Nat) (h1 : 0 ≤ f) (h2 : f < nodes) (h3 : 0 ≤ t) (h4 : t < nodes) (hf : 512 ≤ L.length) :
    Calls Try.prog 28 #[.pointer (some ⟨p, 0, none⟩), .int .i64 f, .int .i64 t, .slice A n c] w fun e w' => e = .returned (.int .i64 13) ∧ w = w' := by
  obtain ⟨A0, c0, rfl, _⟩ := own_slice h.own
  have h0 := h.c0
  have h5 := h.c1
  clear h
  have hf' : (512 : Int) ≤ (L.length : Int) := by omega
  go_enter Try.func28, Try.ntmps28
  go_wp2
  go_ret
  exact ⟨rfl, rfl⟩

set_option maxHeartbeats 2000000 in
theorem netSend_any (w : World) (B p : Nat) (v : Value) (nodes sent : Int) (L : List Ms) (h : NetAt w B p v nodes sent L) (f t : Int) (A : Option Addr) (n c : Nat) (b : List UInt8) (hl : b.length = n) (hb : b.length ≤ 140737488355328) (hr : RB w A b) (hnil : A = none → c = 0)
    (h1 : 0 ≤ f) (h2 : f < nodes) (h3 : 0 ≤ t) (h4 : t < nodes) (hf : L.length < 512) (hs0 : 0 ≤ sent) (hs1 : sent ≤ 1000000000) :
    Calls Try.prog 28 #[.pointer (some ⟨p, 0, none⟩), .int .i64 f, .int .i64 t, .slice A n c] w (NetOut w B p v nodes (sent + 1) L (L.map Ms.plain ++ [(f, t, b)]) (.int .i64 0)) := by
  subst hl
  obtain ⟨A0, c0, rfl, _⟩ := own_slice h.own
  have h0 := h.c0
  have h5 := h.c1
  have H := Lib.hid h
  have HR := Lib.hid hr
  have HN := Lib.hid hnil
  have HB := Lib.hid hb
  clear h hr hnil hb
  have hf' : ¬ ((512 : Int) ≤ (L.length : Int)) := by omega
  go_enter Try.func28, Try.ntmps28
  go_upto_region 5 with fail
  go_region_law (first
    | (refine op_call #[.slice A b.length c] (by simp [Region.wanted]) rfl Try.func43 (by kernel_rfl) rfl (by simp [Act.eval, Act.put]) ?_; refine (clone8_any A b.length c b w.drew rfl HB.out HR.out HN.out).mono ?_; rintro e w5 ⟨x, rfl, ho5, hb5⟩; obtain ⟨A1, c1, rfl, hb1, hb2⟩ := own_body ho5 HB.out f t; have hn5 := H.out.drew.below hb5; have k5 := hn5.c1; have k5a : ∀ ob, (w5.alloc ob).cell? ⟨p, 1, none⟩ = some (.slice A0 L.length c0) := (fun ob => Lib.cell?_alloc_some ob k5); refine ⟨_, rfl, ?_⟩)
    | (refine step_append_any rfl (.tmp 43) (.tmp 49) 44 rfl B 47 _ 3 40 Try.underlying44 infoMs3 rfl (by omega) (by omega) (.slice A0 L.length c0) _ _ (by simp [Act.eval, Act.put]) (World.ownsRow.alloc hn5.own _) _ 1 _ (mcells [⟨f, t, A1, c1, b⟩]) (by simp [Act.eval, Act.put]; rfl) rfl (RC_newL w5 (mcells [⟨f, t, A1, c1, b⟩]) 47) (mcells_one _) (by omega) (by have := hn5.base; have := hn5.lt; simp; omega) ?_; intro v6 w6 ho6 hg6 hv6; obtain ⟨A6, c6, rfl, _⟩ := own_slice ho6; have hp6 := (hg6.block p (by have := hn5.lt; simp; omega) (fun e => hn5.ne e.symm)).trans ((Below.heap_alloc _ _ _ hn5.lt).trans hn5.at_); have l0 : w6.cell? ⟨p, 0, none⟩ = some (.int .i64 nodes) := (cell_of_row w6 p 0 _ _ _ hp6).trans rfl; have l1 : w6.cell? ⟨p, 1, none⟩ = some (.slice A0 L.length c0) := (cell_of_row w6 p 1 _ _ _ hp6).trans rfl; have l2 : w6.cell? ⟨p, 2, none⟩ = some (.int .i64 sent) := (cell_of_row w6 p 2 _ _ _ hp6).trans rfl; have g1 := frozen_of_row w6 p 1 _ _ hp6; have g2 := frozen_of_row w6 p 2 _ _ hp6; have hgr := Lib.hid (hn5.grow (w := w) (m := ⟨f, t, A1, c1, b⟩) hf ((Below.refl _ _).drew.trans hb5) hb1 (fun ad e => (hb2 ad e).1) H.out.foot_lt ho6 hg6 hv6)))
  all_goals
    have hw0 : w6.cell? ⟨p, 2, none⟩ = some (.int .i64 sent) := l2
    clear hn5 hb5 ho5 ho6 hg6 hv6 hp6 hb1 hb2
    go_wp2_with fail
    go_ret
    obtain ⟨ha, hu, hk, hm⟩ := hgr.out
    exact ⟨_, _, rfl, ha.setSent _, by simp [Ms.plain], hu.setCell (fun _ => .inl rfl) _, hk, hm⟩

end Go.Proofs.Ytkpkimhpecbkoaa
