/-
  The texts AuditTurned of this proof in one: what each proves is said at its head. No conditions beyond those that each theorem says.
-/
import Derived.Deep.CutBlock
import Derived.Test.YtjakhemolecbnaaMH

/-
  The law AuditTurned: whether claims are let by does not hang on their order.
-/
section
set_option linter.unusedVariables false
set_option linter.unusedSimpArgs false
namespace Go.Proofs.Ytjakhemolecbnaa
open Go.RowKit

theorem tame_step (L : List Rm) (ms : List Rm) (q : Rm) (h : ms.map Rm.p = (L.take ms.length).map tameR) (hlt : ms.length < L.length) (hq : q.p = tameR L[ms.length]) : (ms ++ [q]).map Rm.p = (L.take (ms.length + 1)).map tameR := by
  rw [List.map_append, h, List.take_succ_eq_append_getElem hlt, List.map_append]
  simp [hq]
theorem tames_ok (L ms : List Rm) (k : Nat) (h : ms.map Rm.p = (L.take k).map tameR) : ∀ m ∈ ms, rOK m.p := by
  intro m hm
  have h1 : m.p ∈ ms.map Rm.p := List.mem_map.2 ⟨m, hm, rfl⟩
  rw [h] at h1
  obtain ⟨x, _, e⟩ := List.mem_map.1 h1
  rw [← e]
  exact tameR_ok x

theorem getD_setN (l : Array Bool) {i j : Nat} (h : i ≠ j) : (l.setIfInBounds j true).getD i false = l.getD i false := by
  rw [Array.getD_eq_getD_getElem?, Array.getD_eq_getD_getElem?, Array.getElem?_setIfInBounds, if_neg (fun e => h e.symm)]
/-- Which world there is, by what is done. -/
def wAt (wa wb wc wd : World) (l : Array Bool) : World := if l.getD 8 false = true then wd else if l.getD 4 false = true then wc else if l.getD 0 false = true then wb else wa
structure TI (wa wb wc wd : World) (l : Array Bool) (W : World) : Prop where
  eq : W = wAt wa wb wc wd l
theorem TI.set {wa wb wc wd : World} {l : Array Bool} {W : World} (h : TI wa wb wc wd l W) (j : Nat) (hj : j ≠ 0 ∧ j ≠ 4 ∧ j ≠ 8 := by decide) : TI wa wb wc wd (l.setIfInBounds j true) W := by
  constructor
  rw [h.eq]
  unfold wAt
  rw [getD_setN l (Ne.symm hj.1), getD_setN l (Ne.symm hj.2.1), getD_setN l (Ne.symm hj.2.2)]

set_option maxRecDepth 100000 in
set_option maxHeartbeats 8000000 in
theorem auditTurned_any (A1 A2 A3 A4 : Option Addr) (n1 n2 n3 n4 c1 c2 c3 c4 : Nat) (turn : Int) (L1 L2 L3 : List Rm) (zs : List Int) (w : World) (hl1 : L1.length = n1) (hl2 : L2.length = n2) (hl3 : L3.length = n3) (hl4 : zs.length = n4) (hr1 : RC w A1 (rmc L1)) (hr2 : RC w A2 (rmc L2)) (hr3 : RC w A3 (rmc L3)) (hr4 : RG w A4 zs) (hi1 : ∀ m ∈ L1, RmIn w m) (hi2 : ∀ m ∈ L2, RmIn w m) (hi3 : ∀ m ∈ L3, RmIn w m) :
    Calls Try.prog 6 #[.slice A1 n1 c1, .slice A2 n2 c2, .slice A3 n3 c3, .slice A4 n4 c4, .int .i64 turn] w fun e w' => e = .returned (.bool true) ∧ Below w.heap.size w w' := by
  subst hl1 hl2 hl3 hl4
  have b01 : Below w.heap.size w (w.alloc (.cells #[.slice A1 L1.length c1, .slice A2 L2.length c2, .slice A3 L3.length c3] 29)) := (Below.refl _ _).alloc (Nat.le_refl _) _
  have hx1 := heap_alloc_new w (.cells #[.slice A1 L1.length c1, .slice A2 L2.length c2, .slice A3 L3.length c3] 29)
  obtain ⟨w1, hw1⟩ : ∃ w1, w1 = w.alloc (.cells #[.slice A1 L1.length c1, .slice A2 L2.length c2, .slice A3 L3.length c3] 29) := ⟨_, rfl⟩
  rw [← hw1] at b01 hx1
  obtain ⟨nX, hnX⟩ : ∃ nX, nX = w.heap.size := ⟨_, rfl⟩
  rw [← hnX] at hx1
  have HX := Lib.hid (show ∀ i : Nat, i < 3 → ∃ (Ax : Option Addr) (cx : Nat) (Lx : List Rm), w1.cell? ⟨nX, i, none⟩ = some (.slice Ax Lx.length cx) ∧ RC w1 Ax (rmc Lx) ∧ ∀ m ∈ Lx, RmIn w m by
    intro i hi
    obtain rfl | rfl | rfl : i = 0 ∨ i = 1 ∨ i = 2 := by omega
    · exact ⟨A1, c1, L1, (cell_of_row w1 nX 0 _ _ _ hx1).trans rfl, hr1.below b01, hi1⟩
    · exact ⟨A2, c2, L2, (cell_of_row w1 nX 1 _ _ _ hx1).trans rfl, hr2.below b01, hi2⟩
    · exact ⟨A3, c3, L3, (cell_of_row w1 nX 2 _ _ _ hx1).trans rfl, hr3.below b01, hi3⟩)
  have HR4 := Lib.hid (show RG w1 A4 zs from hr4.below b01)
  have B01 := Lib.hid b01
  have HW1 := Lib.hid hw1
  have HNX := Lib.hid hnX
  clear hr1 hr2 hr3 hr4 hi1 hi2 hi3 b01 hx1 hw1 hnX
  go_enter Try.func6, Try.ntmps6
  go_upto_block 0 with fail
  rw [show w.alloc (.cells #[.slice A1 L1.length c1, .slice A2 L2.length c2, .slice A3 L3.length c3] 29) = w1 from HW1.out.symm, ← HNX.out]
  go_wp2_with fail
  go_loopg [11, 28] 3 (fun k s11 s28 wr => ∃ L : List Cl, L.length ≤ 3 ∧ k = 3 - L.length ∧ s28 = .int .i64 (L.length : Int) ∧ ClsG wr w1.heap.size s11 L ∧ (∀ c ∈ L.map Cl.p, c.lt = true ∧ c.whole = true) ∧ Below w1.heap.size w1 wr)
  case atStart => exact ⟨[], by simp, rfl, rfl, ClsG.nil _ _, (fun c hc => by cases hc), Below.refl _ _⟩
  case round =>
    obtain ⟨L, h3, hk, rfl, hg, hlw, hb⟩ := hrel
    obtain ⟨Av, cv, rfl, hcv⟩ := own_slice hg.own
    have HK0 := Lib.hid hk
    have HG0 := Lib.hid hg
    have HLW0 := Lib.hid hlw
    have HB0 := Lib.hid hb
    have H30 := Lib.hid h3
    clear hk hg hlw hb hcv
    rename World => wI
    by_cases hlt0 : L.length < 3
    · obtain ⟨Ax, cx, Lx, hcx, hrx, hix⟩ := HX.out L.length hlt0
      have q0 : wI.cell? ⟨nX, L.length, none⟩ = some (.slice Ax Lx.length cx) := cell_below HB0.out hcx
      have HRX := Lib.hid (RC.below hrx HB0.out)
      have HIX := Lib.hid hix
      have hj0 : (0 : Int) ≤ (L.length : Int) := by omega
      have hj3 : (L.length : Int) < 3 := by omega
      have HLT0 := Lib.hid hlt0
      clear hcx hrx hix hlt0 h3
      go_upto_block 2 with fail
      go_cut [14] (fun s wx => ∃ ms : List Rm, ms.length ≤ 6 ∧ ms.map Rm.p = (Lx.take 6).map tameR ∧ RecsG wx wI.heap.size s ms ∧ Below wI.heap.size wI wx)
      case first =>
        go_wp2_with fail
        go_loopg [14, 15] 6 (fun k s5 s7 wr => ∃ ms : List Rm, ms.length ≤ 6 ∧ ms.length ≤ Lx.length ∧ k = 6 - ms.length ∧ s7 = .int .i64 (ms.length : Int) ∧ ms.map Rm.p = (Lx.take ms.length).map tameR ∧ RecsG wr wI.heap.size s5 ms ∧ Below wI.heap.size wI wr)
        case atStart => exact ⟨[], by simp, by simp, rfl, rfl, rfl, RecsG.nil _ _, Below.refl _ _⟩
        case round =>
          obtain ⟨ms, h8, hle, hk, rfl, hmp, hg, hb⟩ := hrel
          obtain ⟨Av, cv, rfl, hcv⟩ := own_slice hg.own
          have HK := Lib.hid hk
          have HMP := Lib.hid hmp
          have HG := Lib.hid hg
          have HB := Lib.hid hb
          have HH8 := Lib.hid h8
          clear hk hmp hg hb hcv
          by_cases hlt : ms.length < Lx.length
          · by_cases hlt8 : ms.length < 6
            · obtain ⟨b1, o1, rfl, e1⟩ := HRX.out.part (by rw [rmc_length]; omega)
              have hget := rmc_get Lx ms.length hlt
              have hin := HIX.out _ (List.getElem_mem hlt)
              have HST := Lib.hid (fun q hq => tame_step Lx ms q HMP.out hlt hq)
              generalize Lx[ms.length] = x at *
              obtain ⟨xk, xt, xA, xc, xg, xb⟩ := x
              dsimp only at hget
              have hbl := HB.out
              have q0 : wr.cell? ⟨b1, o1 + ms.length * 4, none⟩ = some (.int .i64 xk) := cell_below hbl (e1 _ _ hget.1)
              have q1 : wr.cell? ⟨b1, o1 + ms.length * 4 + 1, none⟩ = some (.string (strB xt)) := by rw [Nat.add_assoc]; exact cell_below hbl (e1 _ _ hget.2.1)
              have q2 : wr.cell? ⟨b1, o1 + ms.length * 4 + 2, none⟩ = some (.slice xA xg.length xc) := by rw [Nat.add_assoc]; exact cell_below hbl (e1 _ _ hget.2.2.1)
              have q3 : wr.cell? ⟨b1, o1 + ms.length * 4 + 3, none⟩ = some (.string (strB xb)) := by rw [Nat.add_assoc]; exact cell_below hbl (e1 _ _ hget.2.2.2)
              have hi0 : (0 : Int) ≤ (ms.length : Int) := by omega
              have hi1 : (ms.length : Int) < (Lx.length : Int) := by omega
              have hi8 : (ms.length : Int) < 6 := by omega
              have HLT := Lib.hid hlt
              have HL8 := Lib.hid hlt8
              have HXT := Lib.hid hin.tx
              have HXB := Lib.hid hin.bd
              clear hget hin e1 hlt hlt8 h8 hle hbl
              go_wp2_with fail
              refine (tame_rec ⟨xk, xt, xA, xc, xg, xb⟩ wr HXT.out HXB.out wI.heap.size (.slice Av ms.length cv) ms HG.out HB.out.size).mono ?_
              rintro e w3 ⟨q, rfl, hq, hb3, hg3, hgi⟩
              have HST2 := Lib.hid (HST.out q hq)
              have HB3 := Lib.hid (below_below HB.out HB.out.size hb3)
              have HG3 := Lib.hid hg3
              have HGI := Lib.hid hgi
              obtain ⟨qk, qt, qA, qc, qg, qb⟩ := q
              unfold Rm.cells
              dsimp only
              clear hq hb3 hg3 hgi q0 q1 q2 q3
              go_wp2_with (at_builtin; refine append_rec rfl rfl (.tmp 43) (.tmp 49) rfl w3 wI.heap.size (.slice Av ms.length cv) ms ⟨qk, qt, qA, qc, qg, qb⟩ rfl rfl rfl HG3.out HGI.out HB3.out.size (by have := HL8.out; omega) ?_)
              intro v4 w4 hg4 hu4
              have HG4 := Lib.hid hg4
              have HB4 := Lib.hid (below_upd HB3.out HB3.out.size hu4 (fun k hk => (World.ownsRow.lt HG3.out.own k hk).1))
              clear hg4 hu4
              go_wp2_with fail
              go_roundg (6 - (ms.length + 1))
              case measure => have := HK.out; have := HL8.out; omega
              case rel => exact ⟨ms ++ [⟨qk, qt, qA, qc, qg, qb⟩], by simp; have := HL8.out; omega, by simp; exact HLT.out, by simp, by simp, by rw [List.length_append]; exact HST2.out, HG4.out, HB4.out⟩
            · have h8' : ms.length = 6 := by omega
              have HE := Lib.hid (show ms.map Rm.p = (Lx.take 6).map tameR by rw [← h8']; exact HMP.out)
              have hn8 : ¬ ((ms.length : Int) < 6) := by omega
              have hi1 : (ms.length : Int) < (Lx.length : Int) := by omega
              clear hlt hlt8 h8 hle h8'
              go_wp2_with fail
              go_meet
              exact ⟨ms, HH8.out, HE.out, HG.out, HB.out⟩
          · have HE := Lib.hid (show ms.map Rm.p = (Lx.take 6).map tameR by
              have h := HMP.out
              have hll : ms.length = Lx.length := by omega
              rw [hll, List.take_length] at h
              rw [List.take_of_length_le (by omega)]
              exact h)
            have hi1 : ¬ ((ms.length : Int) < (Lx.length : Int)) := by omega
            clear hlt h8 hle
            go_wp2_with fail
            go_meet
            exact ⟨ms, HH8.out, HE.out, HG.out, HB.out⟩
      obtain ⟨ma, ha6, hap, hag, hab⟩ := hcut
      obtain ⟨Aa, ca, rfl, hca⟩ := own_slice hag.own
      rename World => wJ
      have HA6 := Lib.hid ha6
      have HAB := Lib.hid hab
      have HAO := Lib.hid (tames_ok Lx ma 6 hap)
      have RMA := Lib.hid (hag.at_ HAO.out)
      have HGJ := Lib.hid (HG0.out.below hab)
      have HBJ := Lib.hid (below_below HB0.out HB0.out.size hab)
      clear ha6 hap hag hab hca q0
      go_upto_if 55 with fail
      go_cut [16] (fun s16 wx => ∃ g : Int, s16 = .int .i64 g ∧ wx = wJ)
      case first =>
        by_cases hz : L.length < zs.length
        · obtain ⟨z, hz1⟩ : ∃ z, zs[L.length]? = some z := ⟨_, List.getElem?_eq_getElem hz⟩
          obtain ⟨b4, o4, rfl, e4⟩ := HR4.out.part (by omega)
          have q1 : wJ.cell? ⟨b4, o4 + L.length, none⟩ = some (.int .i64 z) := cell_below HBJ.out (by
            have h := e4 L.length hz
            rw [h]
            obtain ⟨h1, h2⟩ := List.getElem?_eq_some_iff.1 hz1
            rw [h2])
          have hz0 : (L.length : Int) < (zs.length : Int) := by omega
          clear hz hz1 e4
          go_wp2_with fail
          refine (within_any z 0 2 _ (by omega) (by omega) (by omega) (by omega)).mono ?_
          rintro e w3 ⟨rfl, rfl⟩
          go_wp2_with fail
          go_meet
          exact ⟨_, rfl, rfl⟩
        · have hz0 : ¬ ((L.length : Int) < (zs.length : Int)) := by omega
          clear hz
          go_wp2_with fail
          go_meet
          exact ⟨_, rfl, rfl⟩
      case rest =>
        obtain ⟨g, rfl, hwx⟩ := hcut
        subst hwx
        go_wp2_with fail
        refine (claim_ok g Aa ma.length ca ma wc rfl (by have := HA6.out; omega) RMA.out HAO.out w1.heap.size (.slice Av L.length cv) L HGJ.out HBJ.out.size).mono ?_
        rintro e w3 ⟨xA, xc, xl, rfl, hxp, hxe, hb3, hg3, hx3⟩
        clear hxe
        have HB3 := Lib.hid (below_below HBJ.out HBJ.out.size hb3)
        have HG3 := Lib.hid hg3
        have HX3 := Lib.hid hx3
        have HLW3 := Lib.hid (show ∀ c ∈ (L ++ [(⟨g, xA, xc, xl⟩ : Cl)]).map Cl.p, c.lt = true ∧ c.whole = true by
          intro c hc
          rw [List.map_append, List.mem_append] at hc
          rcases hc with hc | hc
          · exact HLW0.out c hc
          · have hc2 := List.mem_singleton.1 hc
            rw [hc2, hxp]
            exact ⟨rfl, rfl⟩)
        clear hb3 hg3 hx3 hxp
        go_wp2_with (at_builtin; refine append_cl rfl rfl (.tmp 61) (.tmp 65) rfl w3 w1.heap.size (.slice Av L.length cv) L ⟨g, xA, xc, xl⟩ rfl rfl rfl HG3.out HX3.out HB3.out.size (by have := HLT0.out; omega) ?_)
        intro v4 w4 hg4 hu4
        have HG4 := Lib.hid hg4
        have HB4 := Lib.hid (below_upd HB3.out HB3.out.size hu4 (fun k hk => (World.ownsRow.lt HG3.out.own k hk).1))
        clear hg4 hu4
        go_wp2_with fail
        go_roundg (3 - (L.length + 1))
        case measure => have := HK0.out; have := HLT0.out; omega
        case rel => exact ⟨L ++ [⟨g, xA, xc, xl⟩], by simp; have := HLT0.out; omega, by simp, by simp, HG4.out, HLW3.out, HB4.out⟩
    · have h3' : L.length = 3 := by omega
      have HL3 := Lib.hid h3'
      have hw2 := withinOf_range turn 0 2 (by omega)
      have hj3 : ¬ ((L.length : Int) < 3) := by omega
      clear hlt0 h3 h3'
      go_wp2_with fail
      refine (within_any turn 0 2 _ (by omega) (by omega) (by omega) (by omega)).mono ?_
      generalize withinOf turn 0 2 = t at *
      rintro e w3 ⟨rfl, rfl⟩
      obtain ⟨gL, rfl⟩ : ∃ gL, Av = some ⟨gL, 0, none⟩ := by
        rcases HG0.out.own.2 with ⟨h, _⟩ | ⟨g, cap, cur, h, _⟩
        · exact absurd h (by rw [HL3.out]; simp)
        · exact ⟨g, by cases h; rfl⟩
      obtain ⟨t, rfl⟩ := Int.eq_ofNat_of_zero_le hw2.1
      have ht2 : t ≤ 2 := by omega
      have hcv3 : 3 ≤ cv := by
        rcases HG0.out.own.2 with ⟨h, _⟩ | ⟨g, cap, cur, h, _, _, hc, _⟩
        · cases h
        · cases h; rw [← HL3.out]; exact hc
      rw [HL3.out]
      obtain ⟨z, hz⟩ : ∃ z, z = wI.heap.size := ⟨_, rfl⟩
      obtain ⟨wa, hwa⟩ : ∃ wa, wa = wI.drew := ⟨_, rfl⟩
      obtain ⟨wb, hwb⟩ : ∃ wb, wb = wa.alloc (.cells #[] 27) := ⟨_, rfl⟩
      have hza : wa.heap.size = z := by rw [hwa, hz]; rfl
      have bIa : Below wI.heap.size wI wa := by rw [hwa]; exact (Below.refl _ _).drew
      have bab : Below wa.heap.size wa wb := by rw [hwb]; exact (Below.refl _ _).alloc (Nat.le_refl _) _
      have bIb := below_below bIa bIa.size bab
      have own0 : wb.ownsRow z 27 2 (.slice (some ⟨z, 0, none⟩) 0 0) 0 [] :=
        ⟨rfl, .inr ⟨z, 0, #[], rfl, Nat.le_refl _, by rw [hwb, ← hza]; exact heap_alloc_new wa _, Nat.le_refl _, by decide, rfl, rfl⟩⟩
      have hgL : gL < z := by rw [hz]; exact (World.ownsRow.lt HG0.out.own gL rfl).2
      have hRL : RC wI (some ⟨gL, 0, none⟩) (clc L) := own_RC HG0.out.own
      have hone : ∀ (M : List Cl) u, u ∈ clc M → u.oneCell' = true := by
        intro M u hu
        obtain ⟨x, _, hu⟩ := List.mem_flatMap.1 hu
        simp only [Cl.cells, List.mem_cons, List.not_mem_nil, or_false] at hu
        rcases hu with rfl | rfl <;> rfl
      have hRd : RC wb (some ⟨gL, t * 2, none⟩) (clc (L.drop t)) := by
        intro h0
        refine ⟨_, rfl, fun j u hj => ?_⟩
        have h1 : (clc L)[t * 2 + j]? = some u := by
          have e : clc L = clc (L.take t) ++ clc (L.drop t) := by rw [← clc_append, List.take_append_drop]
          have el : (clc (L.take t)).length = t * 2 := by rw [clc_length, List.length_take]; have := HL3.out; omega
          rw [e, List.getElem?_append_right (by omega), el, Nat.add_sub_cancel_left]
          exact hj
        obtain ⟨ad, e, hh⟩ := hRL (by rw [clc_length]; have := HL3.out; omega)
        cases e
        have h2 := cell_below bIb (hh _ _ h1)
        rw [add_off] at h2 ⊢
        rwa [Nat.zero_add] at h2
      obtain ⟨vd, wc8, hrun4, own4, g4, hat4⟩ := run_append_any (P := Try.prog) wb z 30 30 27 (.agg #[.int .i64 0, .slice none 0 0]) 2 32 Try.underlying30 infoCla rfl (by omega) (by omega) (.slice (some ⟨z, 0, none⟩) 0 0) 0 [] own0 (some ⟨gL, t * 2, none⟩) (3 - t) (cv - t) (clc (L.drop t)) (by rw [clc_length, List.length_drop, HL3.out]) hRd (hone _) (by omega) (by have := bIb.size; omega)
      rw [Nat.zero_add] at own4
      obtain ⟨Ad, cd, rfl, hcd⟩ := own_slice own4
      have u4 : Upd (fun k => (Value.slice (some ⟨z, 0, none⟩) 0 0).ownBlock = some k) wb wc8 := (Upd.refl _ wb).grown g4 (fun k hk _ => hk)
      have bI4 : Below wI.heap.size wI wc8 := below_upd bIb bIb.size u4 (fun k hk => by have := (World.ownsRow.lt own0 k hk).1; omega)
      have hRt : RC wc8 (some ⟨gL, 0, none⟩) (clc (L.take t)) := by
        have h := RC_take (hRL.below bI4) (t * 2)
        have e : (clc L).take (t * 2) = clc (L.take t) := by
          have e : clc L = clc (L.take t) ++ clc (L.drop t) := by rw [← clc_append, List.take_append_drop]
          have el : (clc (L.take t)).length = t * 2 := by rw [clc_length, List.length_take]; have := HL3.out; omega
          rw [e, ← el, List.take_left]
        rwa [e] at h
      obtain ⟨ve, wd, hrun8, own8, g8, hat8⟩ := run_append_any (P := Try.prog) wc8 z 30 30 27 (.agg #[.int .i64 0, .slice none 0 0]) 2 32 Try.underlying30 infoCla rfl (by omega) (by omega) (.slice Ad (3 - t) cd) (3 - t) ([] ++ clc (L.drop t)) own4 (some ⟨gL, 0, none⟩) t cv (clc (L.take t)) (by rw [clc_length, List.length_take]; have := HL3.out; omega) hRt (hone _) (by omega) (by have := bI4.size; omega)
      rw [show 3 - t + t = 3 by omega, List.nil_append, ← clc_append] at own8
      obtain ⟨Ae, ce, rfl, hce⟩ := own_slice own8
      have u8 : Upd (fun k => (Value.slice Ad (3 - t) cd).ownBlock = some k) wc8 wd := (Upd.refl _ wc8).grown g8 (fun k hk _ => hk)
      have bId : Below wI.heap.size wI wd := below_upd bI4 bI4.size u8 (fun k hk => by have := (World.ownsRow.lt own4 k hk).1; omega)
      have HWB := Lib.hid hwb
      have HZ := Lib.hid hza
      have HWA := Lib.hid hwa
      have HRUN4 := Lib.hid hrun4
      have HRUN8 := Lib.hid hrun8
      have BID := Lib.hid bId
      have HCL := Lib.hid (show ClsAt wI (some ⟨gL, 0, none⟩) L from HG0.out.at_)
      have HCM := Lib.hid (show ClsAt wd Ae (L.drop t ++ L.take t) from ⟨own_RC own8, fun x hx => (HG0.out.below bId).b x (by
        rcases List.mem_append.1 hx with h | h
        · exact List.mem_of_mem_drop h
        · exact List.mem_of_mem_take h) |>.rb⟩)
      have HBI := Lib.hid (below_below B01.out B01.out.size HB0.out)
      clear hwa hwb hza bIa bab bIb own0 hRL hone hRd hrun4 own4 g4 hat4 hcd u4 bI4 hRt hrun8 own8 g8 hat8 hce u8 bId hz hgL
      go_upto_region 16 with fail
      go_cut [18] (fun s18 wx => s18 = .slice Ae 3 ce ∧ wx = wd)
      case first =>
        refine region_byD (TI wa wb wc8 wd) [fun v _ => v = .slice (some ⟨z, 0, none⟩) 0 0, (fun v _ => v = .slice (some ⟨gL, 0, none⟩) 3 cv), (fun v _ => v = .int .i64 (t : Int)), fun v _ => v = .slice (some ⟨gL, t * 2, none⟩) (3 - t) (cv - t), fun v _ => v = .slice Ad (3 - t) cd, (fun v _ => v = .slice (some ⟨gL, 0, none⟩) 3 cv), (fun v _ => v = .int .i64 (t : Int)), fun v _ => v = .slice (some ⟨gL, 0, none⟩) t cv, fun v _ => v = .slice Ae 3 ce, (fun v _ => v = .slice Ae 3 ce)] (by kernel_rfl) (by kernel_rfl) (by kernel_rfl) rfl (⟨HWA.out.symm⟩) ?ok16 ?fin16
        case ok16 =>
          refine ⟨?_, ?_, ?_, ?_, ?_, ?_, ?_, ?_, ?_, ?_, trivial⟩
          · intro l a' w' K hI hcl hsz hn hdn hd hq hK
            clear hd hq
            have h4 : l.getD 4 false = false := hcl 4 0 (by kernel_rfl) hn
            have h8 : l.getD 8 false = false := hcl 8 4 (by kernel_rfl) h4
            have hee : w' = wa := by have := hI.eq; unfold wAt at this; rwa [hn, h4, h8] at this
            rw [hee]
            refine op_value (wanted_free _ _ (by rfl)) (v := .slice (some ⟨z, 0, none⟩) 0 0) (w'' := wb) ?_ (hK _ _ ⟨by unfold wAt; rw [getD_setN l (by decide : (8 : Nat) ≠ 0), getD_setN l (by decide : (4 : Nat) ≠ 0), h4, h8, setTrue (by rw [hsz]; exact of_decide_eq_true (by kernel_rfl))]; rfl⟩ (by rw [hee]; exact (fun j u => by match j with | 0 | 1 | 2 | 3 | 4 | 5 | 6 | 7 | 8 | 9 => exact fun _ h => h | _ + 10 => exact fun _ _ => trivial)) rfl)
            clear hK
            rw [HWB.out]
            simp only [execOp]
            go_simp
            all_goals first | exact HZ.out | rfl | skip
          · intro l a' w' K hI hcl hsz hn hdn hd hq hK
            have e11 : a'.eval (.tmp 11) = .slice (some ⟨gL, 0, none⟩) 3 cv := (hq 11 (by kernel_rfl)).trans rfl
            clear hd hq hcl hsz hn hdn
            refine op_value (wanted_free _ _ (by rfl)) (v := .slice (some ⟨gL, 0, none⟩) 3 cv) (w'' := w') ?_ (hK _ _ (hI.set _) (fun _ _ _ h => h) rfl)
            clear hK
            simp only [execOp, e11]
            have f11 : a'.tmps[11]?.getD undef = .slice (some ⟨gL, 0, none⟩) 3 cv := (Array.getD_eq_getD_getElem? ..).symm.trans e11
            clear e11
            first | rfl | (go_simp <;> exact IntWalk.i64_in _ (by omega))
          · intro l a' w' K hI hcl hsz hn hdn hd hq hK
            have e17 : a'.eval (.tmp 17) = .int .i64 (t : Int) := (hq 17 (by kernel_rfl)).trans rfl
            clear hd hq hcl hsz hn hdn
            refine op_value (wanted_free _ _ (by rfl)) (v := .int .i64 (t : Int)) (w'' := w') ?_ (hK _ _ (hI.set _) (fun _ _ _ h => h) rfl)
            clear hK
            simp only [execOp, e17]
            have f17 : a'.tmps[17]?.getD undef = .int .i64 (t : Int) := (Array.getD_eq_getD_getElem? ..).symm.trans e17
            clear e17
            first | rfl | (go_simp <;> exact IntWalk.i64_in _ (by omega))
          · intro l a' w' K hI hcl hsz hn hdn hd hq hK
            have e71 : a'.eval (.tmp 71) = .slice (some ⟨gL, 0, none⟩) 3 cv := (hd 1 71 (by kernel_rfl))
            have e72 : a'.eval (.tmp 72) = .int .i64 (t : Int) := (hd 2 72 (by kernel_rfl))
            clear hd hq
            refine op_value (wanted_free _ _ (by rfl)) (v := .slice (some ⟨gL, t * 2, none⟩) (3 - t) (cv - t)) (w'' := w') ?_ (hK _ _ (hI.set _) (fun _ _ _ h => h) rfl)
            clear hK hcl hsz hn hdn
            simp only [execOp, e71, e72]
            have f71 : a'.tmps[71]?.getD undef = .slice (some ⟨gL, 0, none⟩) 3 cv := (Array.getD_eq_getD_getElem? ..).symm.trans e71
            have f72 : a'.tmps[72]?.getD undef = .int .i64 (t : Int) := (Array.getD_eq_getD_getElem? ..).symm.trans e72
            clear e71 e72
            have ht0 : (0 : Int) ≤ (t : Int) := by omega
            have ht3 : (t : Int) ≤ 3 := by omega
            have htc : (t : Int) ≤ (cv : Int) := by omega
            have h3c : (3 : Int) ≤ (cv : Int) := by omega
            go_simp
            intro h
            omega
          · intro l a' w' K hI hcl hsz hn hdn hd hq hK
            have e70 : a'.eval (.tmp 70) = .slice (some ⟨z, 0, none⟩) 0 0 := (hd 0 70 (by kernel_rfl))
            have e73 : a'.eval (.tmp 73) = .slice (some ⟨gL, t * 2, none⟩) (3 - t) (cv - t) := (hd 3 73 (by kernel_rfl))
            clear hd hq
            have h0 : l.getD 0 false = true := hdn 0 (by kernel_rfl)
            have h8 : l.getD 8 false = false := hcl 8 4 (by kernel_rfl) hn
            have hee : w' = wb := by have := hI.eq; unfold wAt at this; rwa [hn, h0, h8] at this
            subst hee
            refine op_value (wanted_free _ _ (by rfl)) (v := .slice Ad (3 - t) cd) (w'' := wc8) ?_ (hK _ _ ⟨by unfold wAt; rw [getD_setN l (by decide : (8 : Nat) ≠ 4), h8, setTrue (by rw [hsz]; exact of_decide_eq_true (by kernel_rfl))]; rfl⟩ (fun j u => by match j with | 0 | 1 | 2 | 3 | 4 | 5 | 6 | 7 | 8 | 9 => exact fun _ h => h | _ + 10 => exact fun _ _ => trivial) rfl)
            clear hK
            simp only [execOp, resolve, invoke, builtin, Sem.run_bind, Sem.run_pure, Result.andThen_ok, List.map_toArray, List.map_cons, List.map_nil, e70, e73, HRUN4.out]
          · intro l a' w' K hI hcl hsz hn hdn hd hq hK
            have e11 : a'.eval (.tmp 11) = .slice (some ⟨gL, 0, none⟩) 3 cv := (hq 11 (by kernel_rfl)).trans rfl
            clear hd hq hcl hsz hn hdn
            refine op_value (wanted_free _ _ (by rfl)) (v := .slice (some ⟨gL, 0, none⟩) 3 cv) (w'' := w') ?_ (hK _ _ (hI.set _) (fun _ _ _ h => h) rfl)
            clear hK
            simp only [execOp, e11]
            have f11 : a'.tmps[11]?.getD undef = .slice (some ⟨gL, 0, none⟩) 3 cv := (Array.getD_eq_getD_getElem? ..).symm.trans e11
            clear e11
            first | rfl | (go_simp <;> exact IntWalk.i64_in _ (by omega))
          · intro l a' w' K hI hcl hsz hn hdn hd hq hK
            have e17 : a'.eval (.tmp 17) = .int .i64 (t : Int) := (hq 17 (by kernel_rfl)).trans rfl
            clear hd hq hcl hsz hn hdn
            refine op_value (wanted_free _ _ (by rfl)) (v := .int .i64 (t : Int)) (w'' := w') ?_ (hK _ _ (hI.set _) (fun _ _ _ h => h) rfl)
            clear hK
            simp only [execOp, e17]
            have f17 : a'.tmps[17]?.getD undef = .int .i64 (t : Int) := (Array.getD_eq_getD_getElem? ..).symm.trans e17
            clear e17
            first | rfl | (go_simp <;> exact IntWalk.i64_in _ (by omega))
          · intro l a' w' K hI hcl hsz hn hdn hd hq hK
            have e75 : a'.eval (.tmp 75) = .slice (some ⟨gL, 0, none⟩) 3 cv := (hd 5 75 (by kernel_rfl))
            have e76 : a'.eval (.tmp 76) = .int .i64 (t : Int) := (hd 6 76 (by kernel_rfl))
            clear hd hq
            refine op_value (wanted_free _ _ (by rfl)) (v := .slice (some ⟨gL, 0, none⟩) t cv) (w'' := w') ?_ (hK _ _ (hI.set _) (fun _ _ _ h => h) rfl)
            clear hK hcl hsz hn hdn
            simp only [execOp, e75, e76]
            have f75 : a'.tmps[75]?.getD undef = .slice (some ⟨gL, 0, none⟩) 3 cv := (Array.getD_eq_getD_getElem? ..).symm.trans e75
            have f76 : a'.tmps[76]?.getD undef = .int .i64 (t : Int) := (Array.getD_eq_getD_getElem? ..).symm.trans e76
            clear e75 e76
            have ht0 : (0 : Int) ≤ (t : Int) := by omega
            have ht3 : (t : Int) ≤ 3 := by omega
            have htc : (t : Int) ≤ (cv : Int) := by omega
            have h3c : (3 : Int) ≤ (cv : Int) := by omega
            go_simp
          · intro l a' w' K hI hcl hsz hn hdn hd hq hK
            have e74 : a'.eval (.tmp 74) = .slice Ad (3 - t) cd := (hd 4 74 (by kernel_rfl))
            have e77 : a'.eval (.tmp 77) = .slice (some ⟨gL, 0, none⟩) t cv := (hd 7 77 (by kernel_rfl))
            clear hd hq
            have h4 : l.getD 4 false = true := hdn 4 (by kernel_rfl)
            have hee : w' = wc8 := by have := hI.eq; unfold wAt at this; rwa [hn, h4] at this
            subst hee
            refine op_value (wanted_free _ _ (by rfl)) (v := .slice Ae 3 ce) (w'' := wd) ?_ (hK _ _ ⟨by unfold wAt; rw [setTrue (by rw [hsz]; exact of_decide_eq_true (by kernel_rfl))]; rfl⟩ (fun j u => by match j with | 0 | 1 | 2 | 3 | 4 | 5 | 6 | 7 | 8 | 9 => exact fun _ h => h | _ + 10 => exact fun _ _ => trivial) rfl)
            clear hK
            simp only [execOp, resolve, invoke, builtin, Sem.run_bind, Sem.run_pure, Result.andThen_ok, List.map_toArray, List.map_cons, List.map_nil, e74, e77, HRUN8.out]
          · intro l a' w' K hI hcl hsz hn hdn hd hq hK
            have e78 : a'.eval (.tmp 78) = .slice Ae 3 ce := (hd 8 78 (by kernel_rfl))
            clear hd hq hcl hsz hn hdn
            refine op_value (wanted_free _ _ (by rfl)) (v := .slice Ae 3 ce) (w'' := w') ?_ (hK _ _ (hI.set _) (fun _ _ _ h => h) rfl)
            clear hK
            simp only [execOp, e78]
            have f78 : a'.tmps[78]?.getD undef = .slice Ae 3 ce := (Array.getD_eq_getD_getElem? ..).symm.trans e78
            clear e78
            first | rfl | (go_simp <;> exact IntWalk.i64_in _ (by omega))
        case fin16 =>
          rintro l w' hsz hall hI _ rfl _ rfl _ rfl _ rfl _ rfl _ rfl _ rfl _ rfl _ rfl _ rfl
          simp only [Act.put, List.setIfInBounds_toArray, List.set_cons_zero, List.set_cons_succ, FinGoal]
          have hwd : w' = wd := hI.eq.trans (by unfold wAt; rw [hall 8 (of_decide_eq_true (by kernel_rfl))]; rfl)
          clear hI
          subst hwd
          go_wp2_with fail
          go_meet
          exact ⟨rfl, rfl⟩
      case rest =>
        obtain ⟨rfl, hwx⟩ := hcut
        subst hwx
        have HBW := Lib.hid (below_below HBI.out HBI.out.size BID.out)
        have HCL2 := Lib.hid (HCL.out.below BID.out)
        have HML := Lib.hid (show (L.drop t ++ L.take t).length = 3 by rw [List.length_append, List.length_drop, List.length_take, HL3.out]; omega)
        have HLT := Lib.hid (show L.map Cl.p = (L.take t).map Cl.p ++ (L.drop t).map Cl.p by rw [← List.map_append, List.take_append_drop])
        have HMT := Lib.hid (show (L.drop t ++ L.take t).map Cl.p = (L.drop t).map Cl.p ++ (L.take t).map Cl.p from List.map_append)
        have HMW := Lib.hid (show ∀ c ∈ (L.drop t ++ L.take t).map Cl.p, c.lt = true ∧ c.whole = true by
          intro c hc
          refine HLW0.out c ?_
          rw [HLT.out]
          rw [HMT.out] at hc
          simp only [List.mem_append] at hc ⊢
          exact hc.symm)
        have HVT := Lib.hid (show ((verP ((L.drop t ++ L.take t).map Cl.p)).1 == 0) = ((verP (L.map Cl.p)).1 == 0) by
          rw [HMT.out, HLT.out]
          exact ver_turn _ _ (by rw [← HMT.out]; exact HMW.out))
        have HOT := Lib.hid (show outS [116] (L.drop t ++ L.take t) = outS [116] L by
          rw [out_p _ _ HMW.out, out_p _ _ HLW0.out, HMT.out, HLT.out]
          exact out_turn _ _ _)
        generalize L.drop t ++ L.take t = M at *
        go_upto_region 17 with fail
        go_wp2_with fail
        refine (verify_p _ 3 cv L wc HL3.out (by decide) HCL2.out).mono ?_
        rintro e w6 ⟨rfl, hb6⟩
        generalize (verP (L.map Cl.p)) = f at *
        obtain ⟨f0, f1, f2⟩ := f
        dsimp only at HVT ⊢
        have b67 : Below w6.heap.size w6 (w6.alloc (.cells #[.int .i64 f0, .int .i64 f1, .int .i64 f2] 33)) := (Below.refl _ _).alloc (Nat.le_refl _) _
        obtain ⟨w7, hw7⟩ : ∃ w7, w7 = w6.alloc (.cells #[.int .i64 f0, .int .i64 f1, .int .i64 f2] 33) := ⟨_, rfl⟩
        rw [← hw7] at b67
        have B7 := Lib.hid (below_below hb6 hb6.size b67)
        have HW7 := Lib.hid hw7
        have HCM7 := Lib.hid (HCM.out.below B7.out)
        clear hb6 b67 hw7
        go_upto_region 18 with fail
        rw [show w6.alloc (.cells #[.int .i64 f0, .int .i64 f1, .int .i64 f2] 33) = w7 from HW7.out.symm]
        go_wp2_with fail
        refine (verify_p _ 3 ce M w7 HML.out (by decide) HCM7.out).mono ?_
        rintro e w8 ⟨rfl, hb8⟩
        rw [HVT.out]
        generalize (f0 == 0) = bq at *
        generalize (verP (M.map Cl.p)) = g at *
        obtain ⟨k0, k1, k2⟩ := g
        dsimp only
        have b89 : Below w8.heap.size w8 (w8.alloc (.cells #[.int .i64 k0, .int .i64 k1, .int .i64 k2] 33)) := (Below.refl _ _).alloc (Nat.le_refl _) _
        obtain ⟨w9, hw9⟩ : ∃ w9, w9 = w8.alloc (.cells #[.int .i64 k0, .int .i64 k1, .int .i64 k2] 33) := ⟨_, rfl⟩
        rw [← hw9] at b89
        have B79 := Lib.hid (below_below hb8 hb8.size b89)
        have B9 := Lib.hid (below_below B7.out B7.out.size B79.out)
        have HW9 := Lib.hid hw9
        clear hb8 b89 hw9
        go_upto_region 19 with fail
        rw [show w8.alloc (.cells #[.int .i64 k0, .int .i64 k1, .int .i64 k2] 33) = w9 from HW9.out.symm]
        go_wp2_with fail
        refine (outcomes_any _ 3 cv L [116] w9 HL3.out (by decide) (HCL2.out.below B9.out)).mono ?_
        rintro e wA ⟨Ao, co, rfl, hbA, hoA⟩
        have BA := Lib.hid (below_below B9.out B9.out.size hbA)
        have HOA := Lib.hid hoA
        clear hbA hoA
        go_wp2_with fail
        refine (outcomes_any _ 3 ce M [116] wA HML.out (by decide) (HCM.out.below BA.out)).mono ?_
        rw [HOT.out]
        rintro e wB ⟨Ap, cp, rfl, hbB, hoB⟩
        have BB := Lib.hid (below_below BA.out BA.out.size hbB)
        have HOA2 := Lib.hid (HOA.out.below hbB)
        have HOB := Lib.hid hoB
        clear hbB hoB
        have HOL := Lib.hid (show (outS [116] L).length ≤ 100000000 by unfold outS; split <;> split <;> simp)
        generalize outS [116] L = zo at *
        go_wp2_with fail
        refine (sameI_any Ao Ap zo.length zo.length co cp zo zo wB rfl rfl HOL.out HOA2.out HOB.out).mono ?_
        rw [decide_eq_true (rfl : zo = zo)]
        rintro e wC ⟨rfl, hbC⟩
        have BC := Lib.hid (below_below BB.out BB.out.size hbC)
        clear hbC
        go_wp2_with fail
        refine (known_any wC).mono ?_
        rintro e wD ⟨rfl, hbD⟩
        have BD := Lib.hid (below_below HBW.out HBW.out.size (below_below BC.out BC.out.size hbD))
        clear hbD
        go_wp2_with fail
        go_ret
        exact ⟨rfl, BD.out⟩
end Go.Proofs.Ytjakhemolecbnaa
end
