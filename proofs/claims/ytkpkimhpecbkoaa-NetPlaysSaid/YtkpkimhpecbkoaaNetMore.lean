/-
  The walks of package net: Twice, Pending.
-/
import Derived.Test.YtkpkimhpecbkoaaNetTake
set_option linter.unusedVariables false
set_option linter.unusedSimpArgs false
namespace Go.Proofs.Ytkpkimhpecbkoaa
open Go.RowKit

set_option maxHeartbeats 1000000 in
theorem netTwice_none (k : Int) (w : World) (B p : Nat) (v : Value) (nodes sent : Int) (h : NetAt w B p v nodes sent []) :
    Calls Try.prog 29 #[.pointer (some ⟨p, 0, none⟩), .int .i64 k] w fun e w' => e = .returned (.bool false) ∧ w = w' := by
  obtain ⟨A0, c0, rfl, _⟩ := own_slice h.own
  have H := Lib.hid h
  have h1 := h.c1
  clear h
  go_enter Try.func29, Try.ntmps29
  go_wp2_with fail
  refine (netFind_none k _ _ _ _ _ _ H.out).mono ?_
  rintro e w1 ⟨rfl, rfl⟩
  go_wp2_with fail
  go_ret
  exact ⟨rfl, rfl⟩

set_option maxHeartbeats 1000000 in
theorem netTwice_full (k : Int) (w : World) (B p : Nat) (v : Value) (nodes sent : Int) (L : List Ms) (h : NetAt w B p v nodes sent L) (h0 : 512 ≤ L.length) (hk0 : -9223372036854775808 ≤ k) (hk1 : k ≤ 9223372036854775807) :
    Calls Try.prog 29 #[.pointer (some ⟨p, 0, none⟩), .int .i64 k] w fun e w' => e = .returned (.bool false) ∧ w = w' := by
  obtain ⟨A0, c0, rfl, _⟩ := own_slice h.own
  have H := Lib.hid h
  have h1 := h.c1
  have hl : (512 : Int) ≤ (L.length : Int) := by omega
  clear h
  go_enter Try.func29, Try.ntmps29
  go_wp2_with fail
  refine (netFind_any k _ _ _ _ _ _ L H.out (by omega) hk0 hk1).mono ?_
  rintro e w1 ⟨rfl, rfl⟩
  generalize placeOf k L.length = q
  have hq : ¬ ((q : Int) < 0) := by omega
  go_wp2_with fail
  go_ret
  exact ⟨rfl, rfl⟩

theorem netCopied_agg (f t : Int) (A : Option Addr) (c : Nat) (b : List UInt8) (w : World) (h : BodyAt w ⟨f, t, A, c, b⟩) :
    Calls Try.prog 45 #[.agg #[.int .i64 f, .int .i64 t, .slice A b.length c]] w fun e w' => ∃ A' c', e = .returned (.agg #[.int .i64 f, .int .i64 t, .slice A' b.length c']) ∧ BodyAt w' ⟨f, t, A', c', b⟩ ∧ (∀ ad, A' = some ad → w.heap.size ≤ ad.block) ∧ w'.ownsRow w.heap.size 5 1 (.slice A' b.length c') b.length (bv b) ∧ Below w.heap.size w w' :=
  netCopied_any ⟨f, t, A, c, b⟩ w h

set_option maxRecDepth 100000 in
set_option maxHeartbeats 4000000 in
theorem netTwice_any (k : Int) (w : World) (B p : Nat) (v : Value) (nodes sent : Int) (L : List Ms) (h : NetAt w B p v nodes sent L) (h0 : 0 < L.length) (hf : L.length < 512) (hk0 : -9223372036854775808 ≤ k) (hk1 : k ≤ 9223372036854775807) :
    Calls Try.prog 29 #[.pointer (some ⟨p, 0, none⟩), .int .i64 k] w (NetOut w B p v nodes sent L (L.map Ms.plain ++ [(L[placeOf k L.length]'(placeOf_lt k h0)).plain]) (.bool true)) := by
  obtain ⟨g, c0, rfl, hbg, hnc⟩ := own_form h.own h0
  have H := Lib.hid h
  obtain ⟨i, hi⟩ : ∃ i, i = placeOf k L.length := ⟨_, rfl⟩
  have hil : i < L.length := by rw [hi]; exact placeOf_lt k h0
  have hres : (L[placeOf k L.length]'(placeOf_lt k h0)).plain = L[i].plain := by simp only [hi]
  rw [hres]
  have HI := Lib.hid hi
  have c1 := h.c1
  have hg2 := mcells_get L i hil
  have q0 := h.own.cellAt (i * 3) (by omega)
  have q1 := h.own.cellAt (i * 3 + 1) (by omega)
  have q2 := h.own.cellAt (i * 3 + 2) (by omega)
  rw [hg2.1] at q0
  rw [hg2.2.1] at q1
  rw [hg2.2.2] at q2
  have HM := Lib.hid (h.body L[i] (List.getElem_mem hil))
  obtain ⟨pl, hpl⟩ : ∃ pl, pl = L[i].plain := ⟨_, rfl⟩
  rw [← hpl]
  obtain ⟨mf, hmf⟩ : ∃ mf, mf = L[i].f := ⟨_, rfl⟩
  obtain ⟨mt, hmt⟩ : ∃ mt, mt = L[i].t := ⟨_, rfl⟩
  obtain ⟨mA, hmA⟩ : ∃ mA, mA = L[i].A := ⟨_, rfl⟩
  obtain ⟨mc, hmc⟩ : ∃ mc, mc = L[i].c := ⟨_, rfl⟩
  obtain ⟨mb, hmb⟩ : ∃ mb, mb = L[i].b := ⟨_, rfl⟩
  rw [← hmf] at q0
  rw [← hmt] at q1
  rw [← hmA, ← hmc, ← hmb] at q2
  have HM2 := Lib.hid (show BodyAt w ⟨mf, mt, mA, mc, mb⟩ by rw [hmf, hmt, hmA, hmc, hmb]; exact HM.out.1)
  have HPL := Lib.hid (show pl = (mf, mt, mb) by rw [hpl, hmf, hmt, hmb]; rfl)
  clear hi h hres hg2 HM hmf hmt hmA hmc hmb hpl
  have i0 : (0 : Int) ≤ (i : Int) := by omega
  have i1 : (i : Int) < (L.length : Int) := by omega
  have i2 : ¬ ((i : Int) < 0) := by omega
  have i3 : ¬ ((512 : Int) ≤ (L.length : Int)) := by omega
  go_enter Try.func29, Try.ntmps29
  go_wp2_with fail
  refine (netFind_any k _ _ _ _ _ _ L H.out h0 hk0 hk1).mono ?_
  rw [← HI.out]
  rintro e w1 ⟨rfl, rfl⟩
  go_upto_region 4 with fail
  go_region_law (first
    | (refine op_call #[.agg #[.int .i64 mf, .int .i64 mt, .slice mA mb.length mc]] (by simp [Region.wanted]) rfl Try.func45 (by kernel_rfl) rfl (by simp [Act.eval, Act.put]) ?_; refine (netCopied_agg mf mt mA mc mb w.drew (HM2.out.below ((Below.refl _ _).drew))).mono ?_; rintro e w5 ⟨A1, c1, rfl, hb1, hb2, ho5, hb5⟩; have hn5 := H.out.drew.below hb5; have k5 := hn5.c1; have k5a : ∀ ob, (w5.alloc ob).cell? ⟨p, 1, none⟩ = some (.slice (some ⟨g, 0, none⟩) L.length c0) := (fun ob => Lib.cell?_alloc_some ob k5); refine ⟨_, rfl, ?_⟩)
    | (refine step_append_any rfl (.tmp 23) (.tmp 32) 44 rfl B 47 _ 3 40 Try.underlying44 infoMs3 rfl (by omega) (by omega) (.slice (some ⟨g, 0, none⟩) L.length c0) _ _ (by simp [Act.eval, Act.put]) (World.ownsRow.alloc hn5.own _) _ 1 _ (mcells [⟨mf, mt, A1, c1, mb⟩]) (by simp [Act.eval, Act.put]; rfl) rfl (RC_newL w5 (mcells [⟨mf, mt, A1, c1, mb⟩]) 47) (mcells_one _) (by omega) (by have := hn5.base; have := hn5.lt; simp; omega) ?_; intro v6 w6 ho6 hg6 hv6; obtain ⟨A6, c6, rfl, _⟩ := own_slice ho6; have hp6 := (hg6.block p (by have := hn5.lt; simp; omega) (fun e => hn5.ne e.symm)).trans ((Below.heap_alloc _ _ _ hn5.lt).trans hn5.at_); have l1 : w6.cell? ⟨p, 1, none⟩ = some (.slice (some ⟨g, 0, none⟩) L.length c0) := (cell_of_row w6 p 1 _ _ _ hp6).trans rfl; have g1 := frozen_of_row w6 p 1 _ _ hp6; have hgr := Lib.hid (hn5.grow (w := w) (m := ⟨mf, mt, A1, c1, mb⟩) hf ((Below.refl _ _).drew.trans hb5) hb1 hb2 H.out.foot_lt ho6 hg6 hv6)))
  all_goals
    clear hn5 hb5 ho5 ho6 hg6 hv6 hp6 hb1 hb2
    go_wp2_with fail
    go_ret
    obtain ⟨ha, hu, hk, hm⟩ := hgr.out
    exact ⟨_, _, rfl, ha, by rw [HPL.out]; simp [Ms.plain], hu, hk, hm⟩

/-- A message whose body is a row of the call's own. -/
structure FreshMs (w : World) (B : Nat) (m : Ms) : Prop where
  body : BodyAt w m
  own : w.ownsRow B 5 1 (.slice m.A m.b.length m.c) m.b.length (bv m.b)
theorem FreshMs.upd {F : Nat → Prop} {w w' : World} {B : Nat} {m : Ms} (h : FreshMs w B m) (u : Upd F w w') (hF : ∀ ad, m.A = some ad → ¬ F ad.block) : FreshMs w' B m :=
  ⟨h.body.upd u (fun _ ad e => hF ad e), own_upd h.own u (fun k hk => by
    obtain ⟨f, t, A, c, b⟩ := m
    cases A with
    | none => cases hk
    | some ad => cases hk; exact hF ad rfl)⟩
theorem FreshMs.lt {w : World} {B : Nat} {m : Ms} (h : FreshMs w B m) : ∀ ad, m.A = some ad → B ≤ ad.block ∧ ad.block < w.heap.size := by
  intro ad e
  obtain ⟨f, t, A, c, b⟩ := m
  cases e
  exact h.own.lt _ rfl

set_option maxHeartbeats 4000000 in
theorem netPending_any (w : World) (B p : Nat) (v : Value) (nodes sent : Int) (L : List Ms) (h : NetAt w B p v nodes sent L) :
    Calls Try.prog 30 #[.pointer (some ⟨p, 0, none⟩)] w fun e w' => ∃ x M, e = .returned x ∧ M.map Ms.plain = L.map Ms.plain ∧ w'.ownsRow w.heap.size 47 3 x L.length (mcells M) ∧
      (∀ m ∈ M, FreshMs w' w.heap.size m ∧ ∀ ad, m.A = some ad → x.ownBlock ≠ some ad.block) ∧ Below w.heap.size w w' := by
  obtain ⟨A0, c0, rfl, _⟩ := own_slice h.own
  have H := Lib.hid h
  have h1 := h.c1
  have hL := h.small
  clear h
  go_enter Try.func30, Try.ntmps30
  go_wp2_with fail
  go_loopg [3, 11] L.length (fun k s3 s11 wr => ∃ (i : Nat) (M : List Ms), i ≤ L.length ∧ k = L.length - i ∧ s11 = .int .i64 (i : Int) ∧ M.map Ms.plain = (L.take i).map Ms.plain ∧ wr.ownsRow w.heap.size 47 3 s3 i (mcells M) ∧
      (∀ m ∈ M, FreshMs wr w.heap.size m ∧ ∀ ad, m.A = some ad → s3.ownBlock ≠ some ad.block) ∧ Below w.heap.size w wr)
  case atStart => exact ⟨0, [], Nat.zero_le _, by omega, rfl, rfl, World.ownsRow_nil _ _ _ _, fun m hm => by simp at hm, Below.refl _ _⟩
  case round =>
    obtain ⟨i, M, hi, hk, rfl, hM, ho, hf, hb⟩ := hrel
    have HK := Lib.hid hk
    have HM := Lib.hid hM
    have HO := Lib.hid ho
    have HF := Lib.hid hf
    have HB := Lib.hid hb
    clear hk hM ho hf hb
    by_cases hil : i < L.length
    · have HN := Lib.hid (H.out.below HB.out)
      obtain ⟨g, c0, e, hbg, hnc⟩ := own_form HN.out.own (by omega)
      cases e
      have hg2 := mcells_get L i hil
      have q0 := HN.out.own.cellAt (i * 3) (by omega)
      have q1 := HN.out.own.cellAt (i * 3 + 1) (by omega)
      have q2 := HN.out.own.cellAt (i * 3 + 2) (by omega)
      rw [hg2.1] at q0
      rw [hg2.2.1] at q1
      rw [hg2.2.2] at q2
      have HM1 := Lib.hid (HN.out.body L[i] (List.getElem_mem hil))
      have HT := Lib.hid (List.take_succ_eq_append_getElem hil)
      obtain ⟨pl, hpl⟩ : ∃ pl, pl = L[i].plain := ⟨_, rfl⟩
      obtain ⟨mf, hmf⟩ : ∃ mf, mf = L[i].f := ⟨_, rfl⟩
      obtain ⟨mt, hmt⟩ : ∃ mt, mt = L[i].t := ⟨_, rfl⟩
      obtain ⟨mA, hmA⟩ : ∃ mA, mA = L[i].A := ⟨_, rfl⟩
      obtain ⟨mc, hmc⟩ : ∃ mc, mc = L[i].c := ⟨_, rfl⟩
      obtain ⟨mb, hmb⟩ : ∃ mb, mb = L[i].b := ⟨_, rfl⟩
      rw [← hmf] at q0
      rw [← hmt] at q1
      rw [← hmA, ← hmc, ← hmb] at q2
      have HM2 := Lib.hid (show BodyAt wr ⟨mf, mt, mA, mc, mb⟩ by rw [hmf, hmt, hmA, hmc, hmb]; exact HM1.out.1)
      have HPL := Lib.hid (show L[i].plain = (mf, mt, mb) by rw [hmf, hmt, hmb]; rfl)
      clear hg2 HM1 hmf hmt hmA hmc hmb hpl
      have i0 : (0 : Int) ≤ (i : Int) := by omega
      have i1 : (i : Int) < (L.length : Int) := by omega
      go_upto_region 5 with fail
      have HM3 := Lib.hid (HM2.out.below ((Below.refl _ _).alloc (Nat.le_refl _) (.cells #[.int .i64 mf, .int .i64 mt, .slice mA mb.length mc] 47)))
      have HA := Lib.hid (heap_alloc_new wr (.cells #[.int .i64 mf, .int .i64 mt, .slice mA mb.length mc] 47))
      have x0 : (wr.alloc (.cells #[.int .i64 mf, .int .i64 mt, .slice mA mb.length mc] 47)).cell? ⟨wr.heap.size, 0, none⟩ = some (.int .i64 mf) := (cell_of_row _ _ 0 _ _ _ HA.out).trans rfl
      have x1 : (wr.alloc (.cells #[.int .i64 mf, .int .i64 mt, .slice mA mb.length mc] 47)).cell? ⟨wr.heap.size, 1, none⟩ = some (.int .i64 mt) := (cell_of_row _ _ 1 _ _ _ HA.out).trans rfl
      have x2 : (wr.alloc (.cells #[.int .i64 mf, .int .i64 mt, .slice mA mb.length mc] 47)).cell? ⟨wr.heap.size, 2, none⟩ = some (.slice mA mb.length mc) := (cell_of_row _ _ 2 _ _ _ HA.out).trans rfl
      have HB2 := Lib.hid (show Below wr.heap.size wr (wr.alloc (.cells #[.int .i64 mf, .int .i64 mt, .slice mA mb.length mc] 47)) from (Below.refl _ _).alloc (Nat.le_refl _) _)
      go_wp2_with fail
      refine (netCopied_any ⟨mf, mt, mA, mc, mb⟩ _ HM3.out).mono ?_
      rintro e w5 ⟨A5, c5, rfl, hm5, hf5, ho5, hb5⟩
      unfold Ms.val
      simp only at *
      have HB5 := Lib.hid (below_below HB2.out HB2.out.size hb5)
      have HM5 := Lib.hid hm5
      have HO5 := Lib.hid ho5
      have HF5 := Lib.hid hf5
      have HR5 := Lib.hid (own_below HO.out HB5.out)
      clear hm5 ho5 hf5 hb5 x0 x1 x2
      go_wp2_with (at_builtin; refine append_any rfl _ _ 44 rfl w.heap.size 47 _ 3 40 Try.underlying44 infoMs3 rfl (by omega) (by omega) _ _ _ rfl (World.ownsRow.alloc HR5.out _) _ 1 _ (mcells [⟨mf, mt, A5, c5, mb⟩]) rfl rfl (RC_newL w5 (mcells [⟨mf, mt, A5, c5, mb⟩]) 47) (mcells_one _) ?c1 ?c2 ?_)
      case c1 => omega
      case c2 => have := HB.out.size; have := HB5.out.size; simp; omega
      intro v6 w6 ho6 hg6 hv6
      have HO6 := Lib.hid ho6
      have HU6 := Lib.hid (show Upd (fun k => u3.ownBlock = some k) wr w6 from ((Upd.of_below (F := fun k => u3.ownBlock = some k) HB5.out).alloc _).grown hg6 (fun k hk _ => hk))
      have HU7 := Lib.hid (show Upd (fun k => u3.ownBlock = some k) w5 w6 from ((Upd.refl (fun k => u3.ownBlock = some k) w5).alloc _).grown hg6 (fun k hk _ => hk))
      have HV6 := Lib.hid (show v6.ownBlock = u3.ownBlock ∨ v6.ownBlock = some (w5.heap.size + 1) by simpa using hv6)
      clear ho6 hg6 hv6
      go_wp2_with fail
      go_roundg (L.length - (i + 1))
      case measure => have := HK.out; omega
      case rel =>
        have hb5s := HB5.out.size
        have hws := HB.out.size
        have h3 : ∀ k, u3.ownBlock = some k → w.heap.size ≤ k ∧ k < wr.heap.size := HO.out.lt
        have hA5 : ∀ ad, A5 = some ad → wr.heap.size + 1 ≤ ad.block ∧ ad.block < w5.heap.size := fun ad e => by
          subst e
          have h := HO5.out.lt ad.block rfl
          simpa using h
        refine ⟨i + 1, M ++ [⟨mf, mt, A5, c5, mb⟩], hil, rfl, by go_num, ?_, ?_, ?_, ?_⟩
        · rw [HT.out, List.map_append, List.map_append, HM.out]
          simp only [List.map_cons, List.map_nil, HPL.out]
          rfl
        · rw [mcells_append]
          exact HO6.out
        · intro m hm
          rcases List.mem_append.1 hm with hm | hm
          · obtain ⟨f1, f2⟩ := HF.out m hm
            refine ⟨f1.upd HU6.out (fun ad e hk => f2 ad e hk), fun ad e hk => ?_⟩
            rcases HV6.out with e6 | e6
            · exact f2 ad e (e6 ▸ hk)
            · have := f1.lt ad e
              rw [e6] at hk
              have := Option.some.inj hk
              omega
          · obtain rfl := List.mem_singleton.1 hm
            refine ⟨FreshMs.upd ⟨HM5.out, own_lower HO5.out (by simp; omega)⟩ HU7.out (fun ad e hk => by have := hA5 ad e; have := h3 _ hk; omega), fun ad e hk => ?_⟩
            have := hA5 ad e
            rcases HV6.out with e6 | e6
            · have := h3 _ (e6 ▸ hk); omega
            · rw [e6] at hk
              have := Option.some.inj hk
              omega
        · exact HB.out.trans (HU6.out.to_below hws (fun k hk h => by have := h3 _ h; omega))
    · obtain rfl : i = L.length := by omega
      have hM := HM.out
      rw [List.take_length] at hM
      have HMM := Lib.hid hM
      clear hM
      go_wp2_with fail
      go_ret
      exact ⟨_, M, rfl, HMM.out, HO.out, HF.out, HB.out⟩

end Go.Proofs.Ytkpkimhpecbkoaa
