/-
  The texts AuditOne of this proof in one: what each proves is said at its head. No conditions beyond those that each theorem says.
-/
import Derived.Deep.CutBlock
import Derived.Test.YtjakhemolecbnaaMH

/-
  The law AuditOne: what Verify lets by has no transaction with two outcomes; nor does it mind a beginning of a claim beside it.
-/
section
set_option linter.unusedVariables false
set_option linter.unusedSimpArgs false
namespace Go.Proofs.Ytjakhemolecbnaa
open Go.RowKit

theorem tame_step (L : List Rm) (ms : List Rm) (q : Rm) (h : ms.map Rm.p = (L.take ms.length).map tameR) (hlt : ms.length < L.length) (hq : q.p = tameR L[ms.length]) : (ms ++ [q]).map Rm.p = (L.take (ms.length + 1)).map tameR := by
  rw [List.map_append, h, List.take_succ_eq_append_getElem hlt, List.map_append]
  simp [hq]
theorem tames_ok (L ms : List Rm) (k : Nat) (h : ms.map Rm.p = (L.take k).map tameR) : ∀ m ∈ ms, rOK m.p := by
  intro m hm
  have h1 : m.p ∈ ms.map Rm.p := List.mem_map.2 ⟨m, hm, rfl⟩
  rw [h] at h1
  obtain ⟨x, _, e⟩ := List.mem_map.1 h1
  rw [← e]
  exact tameR_ok x

set_option maxRecDepth 100000 in
set_option maxHeartbeats 8000000 in
theorem auditOne_any (A1 A2 : Option Addr) (n1 n2 c1 c2 : Nat) (L1 L2 : List Rm) (w : World) (hl1 : L1.length = n1) (hl2 : L2.length = n2) (hr1 : RC w A1 (rmc L1)) (hr2 : RC w A2 (rmc L2)) (hi1 : ∀ m ∈ L1, RmIn w m) (hi2 : ∀ m ∈ L2, RmIn w m) :
    Calls Try.prog 5 #[.slice A1 n1 c1, .slice A2 n2 c2] w fun e w' => e = .returned (.bool true) ∧ Below w.heap.size w w' := by
  subst hl1 hl2
  have HR1 := Lib.hid hr1
  have HR2 := Lib.hid hr2
  have HI1 := Lib.hid hi1
  have HI2 := Lib.hid hi2
  clear hr1 hr2 hi1 hi2
  go_enter Try.func5, Try.ntmps5
  go_upto_block 0 with fail
  go_cut [5] (fun s wx => ∃ ms : List Rm, ms.length ≤ 8 ∧ ms.map Rm.p = (L1.take 8).map tameR ∧ RecsG wx w.heap.size s ms ∧ Below w.heap.size w wx)
  case first =>
    go_wp2_with fail
    go_loopg [5, 7] 8 (fun k s5 s7 wr => ∃ ms : List Rm, ms.length ≤ 8 ∧ ms.length ≤ L1.length ∧ k = 8 - ms.length ∧ s7 = .int .i64 (ms.length : Int) ∧ ms.map Rm.p = (L1.take ms.length).map tameR ∧ RecsG wr w.heap.size s5 ms ∧ Below w.heap.size w wr)
    case atStart => exact ⟨[], by simp, by simp, rfl, rfl, rfl, RecsG.nil _ _, Below.refl _ _⟩
    case round =>
      obtain ⟨ms, h8, hle, hk, rfl, hmp, hg, hb⟩ := hrel
      obtain ⟨Av, cv, rfl, hcv⟩ := own_slice hg.own
      have HK := Lib.hid hk
      have HMP := Lib.hid hmp
      have HG := Lib.hid hg
      have HB := Lib.hid hb
      have HH8 := Lib.hid h8
      clear hk hmp hg hb hcv
      by_cases hlt : ms.length < L1.length
      · by_cases hlt8 : ms.length < 8
        · obtain ⟨b1, o1, rfl, e1⟩ := HR1.out.part (by rw [rmc_length]; omega)
          have hget := rmc_get L1 ms.length hlt
          have hin := HI1.out _ (List.getElem_mem hlt)
          have HST := Lib.hid (fun q hq => tame_step L1 ms q HMP.out hlt hq)
          generalize L1[ms.length] = x at *
          obtain ⟨xk, xt, xA, xc, xg, xb⟩ := x
          dsimp only at hget
          have hbl := HB.out
          have q0 : wr.cell? ⟨b1, o1 + ms.length * 4, none⟩ = some (.int .i64 xk) := cell_below hbl (e1 _ _ hget.1)
          have q1 : wr.cell? ⟨b1, o1 + ms.length * 4 + 1, none⟩ = some (.string (strB xt)) := by rw [Nat.add_assoc]; exact cell_below hbl (e1 _ _ hget.2.1)
          have q2 : wr.cell? ⟨b1, o1 + ms.length * 4 + 2, none⟩ = some (.slice xA xg.length xc) := by rw [Nat.add_assoc]; exact cell_below hbl (e1 _ _ hget.2.2.1)
          have q3 : wr.cell? ⟨b1, o1 + ms.length * 4 + 3, none⟩ = some (.string (strB xb)) := by rw [Nat.add_assoc]; exact cell_below hbl (e1 _ _ hget.2.2.2)
          have hi0 : (0 : Int) ≤ (ms.length : Int) := by omega
          have hi1 : (ms.length : Int) < (L1.length : Int) := by omega
          have hi8 : (ms.length : Int) < 8 := by omega
          have HLT := Lib.hid hlt
          have HL8 := Lib.hid hlt8
          have HXT := Lib.hid hin.tx
          have HXB := Lib.hid hin.bd
          clear hget hin e1 hlt hlt8 h8 hle hbl
          go_wp2_with fail
          refine (tame_rec ⟨xk, xt, xA, xc, xg, xb⟩ wr HXT.out HXB.out w.heap.size (.slice Av ms.length cv) ms HG.out HB.out.size).mono ?_
          rintro e w3 ⟨q, rfl, hq, hb3, hg3, hgi⟩
          have HST2 := Lib.hid (HST.out q hq)
          have HB3 := Lib.hid (below_below HB.out HB.out.size hb3)
          have HG3 := Lib.hid hg3
          have HGI := Lib.hid hgi
          obtain ⟨qk, qt, qA, qc, qg, qb⟩ := q
          unfold Rm.cells
          dsimp only
          clear hq hb3 hg3 hgi q0 q1 q2 q3
          go_wp2_with (at_builtin; refine append_rec rfl rfl (.tmp 27) (.tmp 33) rfl w3 w.heap.size (.slice Av ms.length cv) ms ⟨qk, qt, qA, qc, qg, qb⟩ rfl rfl rfl HG3.out HGI.out HB3.out.size (by have := HL8.out; omega) ?_)
          intro v4 w4 hg4 hu4
          have HG4 := Lib.hid hg4
          have HB4 := Lib.hid (below_upd HB3.out HB3.out.size hu4 (fun k hk => (World.ownsRow.lt HG3.out.own k hk).1))
          clear hg4 hu4
          go_wp2_with fail
          go_roundg (8 - (ms.length + 1))
          case measure => have := HK.out; have := HL8.out; omega
          case rel => exact ⟨ms ++ [⟨qk, qt, qA, qc, qg, qb⟩], by simp; have := HL8.out; omega, by simp; exact HLT.out, by simp, by simp, by rw [List.length_append]; exact HST2.out, HG4.out, HB4.out⟩
        · have h8' : ms.length = 8 := by omega
          have HE := Lib.hid (show ms.map Rm.p = (L1.take 8).map tameR by rw [← h8']; exact HMP.out)
          have hn8 : ¬ ((ms.length : Int) < 8) := by omega
          have hi1 : (ms.length : Int) < (L1.length : Int) := by omega
          clear hlt hlt8 h8 hle h8'
          go_wp2_with fail
          go_meet
          exact ⟨ms, HH8.out, HE.out, HG.out, HB.out⟩
      · have HE := Lib.hid (show ms.map Rm.p = (L1.take 8).map tameR by
          have h := HMP.out
          have hll : ms.length = L1.length := by omega
          rw [hll, List.take_length] at h
          rw [List.take_of_length_le (by omega)]
          exact h)
        have hi1 : ¬ ((ms.length : Int) < (L1.length : Int)) := by omega
        clear hlt h8 hle
        go_wp2_with fail
        go_meet
        exact ⟨ms, HH8.out, HE.out, HG.out, HB.out⟩
  obtain ⟨ma, ha8, hap, hag, hab⟩ := hcut
  obtain ⟨Aa, ca, rfl, hca⟩ := own_slice hag.own
  have HCA := Lib.hid hca
  have HA8 := Lib.hid ha8
  have HAP := Lib.hid hap
  have HAG := Lib.hid hag
  have HAB := Lib.hid hab
  clear ha8 hap hag hab hca
  rename World => wA
  go_upto_block 2 with fail
  go_cut [6] (fun s wx => ∃ ms : List Rm, ms.length ≤ 8 ∧ ms.map Rm.p = (L2.take 8).map tameR ∧ RecsG wx wA.heap.size s ms ∧ Below wA.heap.size wA wx)
  case first =>
    go_wp2_with fail
    go_loopg [6, 8] 8 (fun k s5 s7 wr => ∃ ms : List Rm, ms.length ≤ 8 ∧ ms.length ≤ L2.length ∧ k = 8 - ms.length ∧ s7 = .int .i64 (ms.length : Int) ∧ ms.map Rm.p = (L2.take ms.length).map tameR ∧ RecsG wr wA.heap.size s5 ms ∧ Below wA.heap.size wA wr)
    case atStart => exact ⟨[], by simp, by simp, rfl, rfl, rfl, RecsG.nil _ _, Below.refl _ _⟩
    case round =>
      obtain ⟨ms, h8, hle, hk, rfl, hmp, hg, hb⟩ := hrel
      obtain ⟨Av, cv, rfl, hcv⟩ := own_slice hg.own
      have HK := Lib.hid hk
      have HMP := Lib.hid hmp
      have HG := Lib.hid hg
      have HB := Lib.hid hb
      have HH8 := Lib.hid h8
      clear hk hmp hg hb hcv
      by_cases hlt : ms.length < L2.length
      · by_cases hlt8 : ms.length < 8
        · obtain ⟨b1, o1, rfl, e1⟩ := HR2.out.part (by rw [rmc_length]; omega)
          have hget := rmc_get L2 ms.length hlt
          have hin := HI2.out _ (List.getElem_mem hlt)
          have HST := Lib.hid (fun q hq => tame_step L2 ms q HMP.out hlt hq)
          generalize L2[ms.length] = x at *
          obtain ⟨xk, xt, xA, xc, xg, xb⟩ := x
          dsimp only at hget
          have hbl := below_below HAB.out HAB.out.size HB.out
          have q0 : wr.cell? ⟨b1, o1 + ms.length * 4, none⟩ = some (.int .i64 xk) := cell_below hbl (e1 _ _ hget.1)
          have q1 : wr.cell? ⟨b1, o1 + ms.length * 4 + 1, none⟩ = some (.string (strB xt)) := by rw [Nat.add_assoc]; exact cell_below hbl (e1 _ _ hget.2.1)
          have q2 : wr.cell? ⟨b1, o1 + ms.length * 4 + 2, none⟩ = some (.slice xA xg.length xc) := by rw [Nat.add_assoc]; exact cell_below hbl (e1 _ _ hget.2.2.1)
          have q3 : wr.cell? ⟨b1, o1 + ms.length * 4 + 3, none⟩ = some (.string (strB xb)) := by rw [Nat.add_assoc]; exact cell_below hbl (e1 _ _ hget.2.2.2)
          have hi0 : (0 : Int) ≤ (ms.length : Int) := by omega
          have hi1 : (ms.length : Int) < (L2.length : Int) := by omega
          have hi8 : (ms.length : Int) < 8 := by omega
          have HLT := Lib.hid hlt
          have HL8 := Lib.hid hlt8
          have HXT := Lib.hid hin.tx
          have HXB := Lib.hid hin.bd
          clear hget hin e1 hlt hlt8 h8 hle hbl
          go_wp2_with fail
          refine (tame_rec ⟨xk, xt, xA, xc, xg, xb⟩ wr HXT.out HXB.out wA.heap.size (.slice Av ms.length cv) ms HG.out HB.out.size).mono ?_
          rintro e w3 ⟨q, rfl, hq, hb3, hg3, hgi⟩
          have HST2 := Lib.hid (HST.out q hq)
          have HB3 := Lib.hid (below_below HB.out HB.out.size hb3)
          have HG3 := Lib.hid hg3
          have HGI := Lib.hid hgi
          obtain ⟨qk, qt, qA, qc, qg, qb⟩ := q
          unfold Rm.cells
          dsimp only
          clear hq hb3 hg3 hgi q0 q1 q2 q3
          go_wp2_with (at_builtin; refine append_rec rfl rfl (.tmp 45) (.tmp 51) rfl w3 wA.heap.size (.slice Av ms.length cv) ms ⟨qk, qt, qA, qc, qg, qb⟩ rfl rfl rfl HG3.out HGI.out HB3.out.size (by have := HL8.out; omega) ?_)
          intro v4 w4 hg4 hu4
          have HG4 := Lib.hid hg4
          have HB4 := Lib.hid (below_upd HB3.out HB3.out.size hu4 (fun k hk => (World.ownsRow.lt HG3.out.own k hk).1))
          clear hg4 hu4
          go_wp2_with fail
          go_roundg (8 - (ms.length + 1))
          case measure => have := HK.out; have := HL8.out; omega
          case rel => exact ⟨ms ++ [⟨qk, qt, qA, qc, qg, qb⟩], by simp; have := HL8.out; omega, by simp; exact HLT.out, by simp, by simp, by rw [List.length_append]; exact HST2.out, HG4.out, HB4.out⟩
        · have h8' : ms.length = 8 := by omega
          have HE := Lib.hid (show ms.map Rm.p = (L2.take 8).map tameR by rw [← h8']; exact HMP.out)
          have hn8 : ¬ ((ms.length : Int) < 8) := by omega
          have hi1 : (ms.length : Int) < (L2.length : Int) := by omega
          clear hlt hlt8 h8 hle h8'
          go_wp2_with fail
          go_meet
          exact ⟨ms, HH8.out, HE.out, HG.out, HB.out⟩
      · have HE := Lib.hid (show ms.map Rm.p = (L2.take 8).map tameR by
          have h := HMP.out
          have hll : ms.length = L2.length := by omega
          rw [hll, List.take_length] at h
          rw [List.take_of_length_le (by omega)]
          exact h)
        have hi1 : ¬ ((ms.length : Int) < (L2.length : Int)) := by omega
        clear hlt h8 hle
        go_wp2_with fail
        go_meet
        exact ⟨ms, HH8.out, HE.out, HG.out, HB.out⟩
  obtain ⟨mb, hb8, hbp, hbg, hbb⟩ := hcut
  obtain ⟨Ab, cb, rfl, hcb⟩ := own_slice hbg.own
  rename World => wB
  have HB8 := Lib.hid hb8
  have HBG := Lib.hid hbg
  have HAB2 := Lib.hid (below_below HAB.out HAB.out.size hbb)
  have HAG2 := Lib.hid (HAG.out.below hbb)
  have HAO := Lib.hid (tames_ok L1 ma 8 HAP.out)
  have HBO := Lib.hid (tames_ok L2 mb 8 hbp)
  have RMA := Lib.hid (HAG2.out.at_ HAO.out)
  have RMB := Lib.hid (HBG.out.at_ HBO.out)
  clear hb8 hbp hbg hbb hcb
  go_wp2_with fail
  refine (claim_ok 0 Aa ma.length ca ma wB rfl (by have := HA8.out; omega) RMA.out HAO.out wB.heap.size _ _ (ClsG.nil _ _) (Nat.le_refl _)).mono ?_
  rintro e w3 ⟨xA, xc, xl, rfl, hxp, hxe, hb3, _, hx3⟩
  clear hxe
  have HXP := Lib.hid hxp
  have HX3 := Lib.hid hx3
  have HBB3 := Lib.hid hb3
  have RMB3 := Lib.hid (RMB.out.below hb3)
  clear hxp hx3 hb3
  go_wp2_with fail
  refine (claim_ok 1 Ab mb.length cb mb w3 rfl (by have := HB8.out; omega) RMB3.out HBO.out wB.heap.size _ _ (ClsG.nil _ _) HBB3.out.size).mono ?_
  rintro e w4 ⟨yA, yc, yl, rfl, hyp, hye, hb4, _, hy4⟩
  clear hye
  have HYP := Lib.hid hyp
  have B34 := Lib.hid hb4
  obtain ⟨w5, hw5⟩ : ∃ w5, w5 = w4.alloc (.cells #[.int .i64 0, .slice xA xl.length xc, .int .i64 1, .slice yA yl.length yc] 27) := ⟨_, rfl⟩
  have b45 : Below w4.heap.size w4 w5 := by rw [hw5]; exact (Below.refl _ _).alloc (Nat.le_refl _) _
  have BB5 := Lib.hid (below_below HBB3.out HBB3.out.size (below_below hb4 hb4.size b45))
  have CL5 := Lib.hid (show ClsAt w5 (some ⟨w4.heap.size, 0, none⟩) [⟨0, xA, xc, xl⟩, ⟨1, yA, yc, yl⟩] from by
    refine ⟨by rw [hw5]; exact RC_newL w4 [.int .i64 0, .slice xA xl.length xc, .int .i64 1, .slice yA yl.length yc] _, fun x hx => ?_⟩
    simp only [List.mem_cons, List.not_mem_nil, or_false] at hx
    rcases hx with rfl | rfl
    · exact ((HX3.out.below hb4).below b45).rb
    · exact (hy4.below b45).rb)
  have HW5 := Lib.hid hw5
  obtain ⟨n4, hn4⟩ : ∃ n4, n4 = w4.heap.size := ⟨_, rfl⟩
  rw [← hn4] at CL5
  have HN4 := Lib.hid hn4
  have CP := Lib.hid (show ([⟨0, xA, xc, xl⟩, ⟨1, yA, yc, yl⟩] : List Cl).map Cl.p = [clP 0 (ma.map Rm.p), clP 1 (mb.map Rm.p)] by
    show [Cl.p ⟨0, xA, xc, xl⟩, Cl.p ⟨1, yA, yc, yl⟩] = _
    rw [HXP.out, HYP.out])
  have RMA5 := Lib.hid (RMA.out.below BB5.out)
  have RMB5 := Lib.hid (RMB.out.below BB5.out)
  clear hyp hy4 hb4 b45 hw5 hn4
  go_upto_region 11 with fail
  rw [show w4.alloc (.cells #[.int .i64 0, .slice xA xl.length xc, .int .i64 1, .slice yA yl.length yc] 27) = w5 from HW5.out.symm, ← HN4.out]
  go_wp2_with fail
  refine (verify_p _ 2 2 _ w5 rfl (by decide) CL5.out).mono ?_
  rw [CP.out]
  obtain ⟨f, hf⟩ : ∃ f, f = verP [clP 0 (ma.map Rm.p), clP 1 (mb.map Rm.p)] := ⟨_, rfl⟩
  rw [← hf]
  rintro e w6 ⟨rfl, hb6⟩
  dsimp only
  have HF := Lib.hid hf
  have b67 : Below w6.heap.size w6 (w6.alloc (.cells #[.int .i64 f.1, .int .i64 f.2.1, .int .i64 f.2.2] 33)) := (Below.refl _ _).alloc (Nat.le_refl _) _
  have hx7 := heap_alloc_new w6 (.cells #[.int .i64 f.1, .int .i64 f.2.1, .int .i64 f.2.2] 33)
  obtain ⟨w7, hw7⟩ : ∃ w7, w7 = w6.alloc (.cells #[.int .i64 f.1, .int .i64 f.2.1, .int .i64 f.2.2] 33) := ⟨_, rfl⟩
  rw [← hw7] at b67 hx7
  obtain ⟨n6, hn6⟩ : ∃ n6, n6 = w6.heap.size := ⟨_, rfl⟩
  rw [← hn6] at hx7
  have B57 := Lib.hid (below_below hb6 hb6.size b67)
  have BB7 := Lib.hid (below_below BB5.out BB5.out.size B57.out)
  have HX7 := Lib.hid hx7
  have HW7 := Lib.hid hw7
  have HN6 := Lib.hid hn6
  have CL7 := Lib.hid (CL5.out.below B57.out)
  have RMA7 := Lib.hid (RMA5.out.below B57.out)
  have RMB7 := Lib.hid (RMB5.out.below B57.out)
  clear hf hb6 b67 hx7 hw7 hn6
  go_upto_region 12 with fail
  rw [show w6.alloc (.cells #[.int .i64 f.1, .int .i64 f.2.1, .int .i64 f.2.2] 33) = w7 from HW7.out.symm, ← HN6.out]
  by_cases hok : f.1 = 0
  · have hob : (f.1 == 0) = true := by simpa using hok
    rw [hob]
    clear hob
    have hlw : ∀ c ∈ [clP 0 (ma.map Rm.p), clP 1 (mb.map Rm.p)], c.lt = true ∧ c.whole = true := by
      intro c hc
      simp only [List.mem_cons, List.not_mem_nil, or_false] at hc
      rcases hc with rfl | rfl <;> exact ⟨rfl, rfl⟩
    have HOK := Lib.hid (show OkC [clP 0 (ma.map Rm.p), clP 1 (mb.map Rm.p)] from (faults_ok _ hlw).1 ((verP_ok _).1 (by rw [← HF.out]; exact hok)))
    have HLW := Lib.hid hlw
    have b78 : Below w7.heap.size w7 (w7.alloc (.cells #[.string ⟨#[116]⟩, .string ⟨#[117]⟩, .string ⟨#[110, 111, 110, 101]⟩] 9)) := (Below.refl _ _).alloc (Nat.le_refl _) _
    have hx8 := heap_alloc_new w7 (.cells #[.string ⟨#[116]⟩, .string ⟨#[117]⟩, .string ⟨#[110, 111, 110, 101]⟩] 9)
    obtain ⟨w8, hw8⟩ : ∃ w8, w8 = w7.alloc (.cells #[.string ⟨#[116]⟩, .string ⟨#[117]⟩, .string ⟨#[110, 111, 110, 101]⟩] 9) := ⟨_, rfl⟩
    rw [← hw8] at b78 hx8
    obtain ⟨n7, hn7⟩ : ∃ n7, n7 = w7.heap.size := ⟨_, rfl⟩
    rw [← hn7] at hx8
    have HNM := Lib.hid (show ∀ i : Nat, i < 3 → ∃ z : List UInt8, w8.cell? ⟨n7, i, none⟩ = some (.string (strB z)) by
      intro i hi
      obtain rfl | rfl | rfl : i = 0 ∨ i = 1 ∨ i = 2 := by omega
      · exact ⟨[116], (cell_of_row w8 n7 0 _ _ _ hx8).trans rfl⟩
      · exact ⟨[117], (cell_of_row w8 n7 1 _ _ _ hx8).trans rfl⟩
      · exact ⟨[110, 111, 110, 101], (cell_of_row w8 n7 2 _ _ _ hx8).trans rfl⟩)
    have BB8 := Lib.hid (below_below BB7.out BB7.out.size b78)
    have CL8 := Lib.hid (CL7.out.below b78)
    have RMA8 := Lib.hid (RMA7.out.below b78)
    have RMB8 := Lib.hid (RMB7.out.below b78)
    have HW8 := Lib.hid hw8
    have HN7 := Lib.hid hn7
    clear hok hlw b78 hx8 hw8 hn7
    go_upto_block 4 with fail
    rw [show w7.alloc (.cells #[.string ⟨#[116]⟩, .string ⟨#[117]⟩, .string ⟨#[110, 111, 110, 101]⟩] 9) = w8 from HW8.out.symm, ← HN7.out]
    go_wp2_with fail
    go_loopg [78] 3 (fun k s78 wr => ∃ i : Nat, i ≤ 3 ∧ k = 3 - i ∧ s78 = .int .i64 (i : Int) ∧ Below w8.heap.size w8 wr)
    case atStart => exact ⟨0, by omega, rfl, rfl, Below.refl _ _⟩
    case round =>
      obtain ⟨i, hi, hk, rfl, hb⟩ := hrel
      have HK := Lib.hid hk
      have HB := Lib.hid hb
      clear hk hb
      by_cases hlt : i < 3
      · obtain ⟨z, hz⟩ := HNM.out i hlt
        have q0 : wr.cell? ⟨n7, i, none⟩ = some (.string (strB z)) := cell_below HB.out hz
        have hi0 : (0 : Int) ≤ (i : Int) := by omega
        have hi3 : (i : Int) < 3 := by omega
        have HLT := Lib.hid hlt
        clear hz hlt hi
        go_wp2_with fail
        refine (outcomes_any _ 2 2 [⟨0, xA, xc, xl⟩, ⟨1, yA, yc, yl⟩] z wr rfl (by decide) (CL8.out.below HB.out)).mono ?_
        rintro e w9 ⟨A9, c9, rfl, hb9, _⟩
        have hol : ¬ ((1 : Int) < ((outS z [⟨0, xA, xc, xl⟩, ⟨1, yA, yc, yl⟩]).length : Int)) := by
          rw [out_p z _ (by rw [CP.out]; exact HLW.out), CP.out]
          have := one_out HOK.out z
          omega
        generalize (outS z [⟨0, xA, xc, xl⟩, ⟨1, yA, yc, yl⟩]).length = k9 at *
        have HB9 := Lib.hid (below_below HB.out HB.out.size hb9)
        clear hb9 q0
        go_wp2_with fail
        go_roundg (3 - (i + 1))
        case measure => have := HK.out; have := HLT.out; omega
        case rel => exact ⟨i + 1, HLT.out, rfl, by go_num, HB9.out⟩
      · obtain rfl : i = 3 := by omega
        have BBR := Lib.hid (below_below BB8.out BB8.out.size HB.out)
        have RMAR := Lib.hid (RMA8.out.below HB.out)
        have RMBR := Lib.hid (RMB8.out.below HB.out)
        clear hlt hi
        rename World => wR
        go_wp2_with fail
        go_loopg [14] (ma.length + 1) (fun k s14 wr => ∃ i : Nat, i ≤ ma.length + 1 ∧ k = ma.length + 1 - i ∧ s14 = .int .i64 (i : Int) ∧ Below wR.heap.size wR wr)
        case atStart => exact ⟨0, by omega, rfl, rfl, Below.refl _ _⟩
        case round =>
          obtain ⟨i, hi, hk, rfl, hb⟩ := hrel
          have HK := Lib.hid hk
          have HB := Lib.hid hb
          clear hk hb
          have hia : (i : Int) ≤ 9 := by have := HA8.out; omega
          by_cases hlt : i ≤ ma.length
          · have hi0 : (0 : Int) ≤ (i : Int) := by omega
            have hi1 : (i : Int) ≤ (ma.length : Int) := by omega
            have hic : (i : Int) ≤ (ca : Int) := by have := HCA.out; omega
            have HLT := Lib.hid hlt
            have RT := Lib.hid ((RMAR.out.below HB.out).take i)
            clear hlt hi
            go_wp2_with fail
            refine (claim_ok 0 Aa i ca (ma.take i) wr (by rw [List.length_take]; have := HLT.out; omega) (by have := HLT.out; have := HA8.out; omega) RT.out (fun m hm => HAO.out m (List.mem_of_mem_take hm)) wr.heap.size _ _ (ClsG.nil _ _) (Nat.le_refl _)).mono ?_
            rintro e w9 ⟨pA, pc, pl, rfl, hpp, hpe, hb9, _, hp9⟩
            clear hpe
            have HPP := Lib.hid hpp
            have HP9 := Lib.hid hp9
            have HB9 := Lib.hid hb9
            have HBR9 := Lib.hid (below_below HB.out HB.out.size hb9)
            have RB9 := Lib.hid (RMBR.out.below HBR9.out)
            clear hpp hp9 hb9
            go_wp2_with fail
            refine (claim_ok 1 Ab mb.length cb mb w9 rfl (by have := HB8.out; omega) RB9.out HBO.out w9.heap.size _ _ (ClsG.nil _ _) (Nat.le_refl _)).mono ?_
            rintro e w10 ⟨qA, qc, ql, rfl, hqp, hqe, hb10, _, hq10⟩
            clear hqe
            have HQP := Lib.hid hqp
            have HQ10 := Lib.hid hq10
            have HB10 := Lib.hid hb10
            have HBR10 := Lib.hid (below_below HBR9.out HBR9.out.size hb10)
            have RA10 := Lib.hid (RMAR.out.below HBR10.out)
            clear hqp hq10 hb10
            go_wp2_with fail
            refine (claim_ok 0 Aa ma.length ca ma w10 rfl (by have := HA8.out; omega) RA10.out HAO.out w10.heap.size _ _ (ClsG.nil _ _) (Nat.le_refl _)).mono ?_
            rintro e w11 ⟨rA, rc, rl, rfl, hrp, hre, hb11, _, hr11⟩
            clear hre
            have HRP := Lib.hid hrp
            obtain ⟨w12, hw12⟩ : ∃ w12, w12 = w11.alloc (.cells #[.int .i64 0, .slice pA pl.length pc, .int .i64 1, .slice qA ql.length qc, .int .i64 0, .slice rA rl.length rc] 27) := ⟨_, rfl⟩
            have b12 : Below w11.heap.size w11 w12 := by rw [hw12]; exact (Below.refl _ _).alloc (Nat.le_refl _) _
            have CL12 := Lib.hid (show ClsAt w12 (some ⟨w11.heap.size, 0, none⟩) [⟨0, pA, pc, pl⟩, ⟨1, qA, qc, ql⟩, ⟨0, rA, rc, rl⟩] from by
              refine ⟨by rw [hw12]; exact RC_newL w11 [.int .i64 0, .slice pA pl.length pc, .int .i64 1, .slice qA ql.length qc, .int .i64 0, .slice rA rl.length rc] _, fun x hx => ?_⟩
              simp only [List.mem_cons, List.not_mem_nil, or_false] at hx
              rcases hx with rfl | rfl | rfl
              · exact (((HP9.out.below HB10.out).below hb11).below b12).rb
              · exact ((HQ10.out.below hb11).below b12).rb
              · exact (hr11.below b12).rb)
            have HBR12 := Lib.hid (below_below HBR10.out HBR10.out.size (below_below hb11 hb11.size b12))
            have HW12 := Lib.hid hw12
            have CP3 := Lib.hid (show ([⟨0, pA, pc, pl⟩, ⟨1, qA, qc, ql⟩, ⟨0, rA, rc, rl⟩] : List Cl).map Cl.p = [clP 0 ((ma.map Rm.p).take i), clP 1 (mb.map Rm.p), clP 0 (ma.map Rm.p)] by
              show [Cl.p ⟨0, pA, pc, pl⟩, Cl.p ⟨1, qA, qc, ql⟩, Cl.p ⟨0, rA, rc, rl⟩] = _
              rw [HPP.out, HQP.out, HRP.out, List.map_take])
            clear hrp hb11 hr11 b12 hw12
            go_wp2_with fail
            rw [show w11.alloc (.cells #[.int .i64 0, .slice pA pl.length pc, .int .i64 1, .slice qA ql.length qc, .int .i64 0, .slice rA rl.length rc] 27) = w12 from HW12.out.symm]
            refine (verify_p _ 3 3 _ w12 rfl (by decide) CL12.out).mono ?_
            rw [CP3.out]
            have hv0 : (verP [clP 0 ((ma.map Rm.p).take i), clP 1 (mb.map Rm.p), clP 0 (ma.map Rm.p)]).1 = 0 := by
              rw [verP_ok, faults_ok]
              · exact ok_part HOK.out i
              · intro c hc
                simp only [List.mem_cons, List.not_mem_nil, or_false] at hc
                rcases hc with rfl | rfl | rfl <;> exact ⟨rfl, rfl⟩
            generalize verP [clP 0 ((ma.map Rm.p).take i), clP 1 (mb.map Rm.p), clP 0 (ma.map Rm.p)] = v at *
            obtain ⟨v0, v1, v2⟩ := v
            dsimp only at hv0 ⊢
            subst hv0
            rintro e w13 ⟨rfl, hb13⟩
            have HBR13 := Lib.hid (below_below HBR12.out HBR12.out.size hb13)
            clear hb13
            go_wp2_with fail
            go_roundg (ma.length + 1 - (i + 1))
            case measure => have := HK.out; have := HLT.out; omega
            case rel => exact ⟨i + 1, by have := HLT.out; omega, rfl, by go_num, HBR13.out.alloc (by have := HBR13.out.size; omega) _⟩
          · obtain rfl : i = ma.length + 1 := by omega
            have hi1 : ¬ (((ma.length + 1 : Nat) : Int) ≤ (ma.length : Int)) := by omega
            have BE := Lib.hid (below_below HAB2.out HAB2.out.size (below_below BBR.out BBR.out.size HB.out))
            clear hlt hi
            go_wp2_with fail
            refine (known_any wr).mono ?_
            rintro e w9 ⟨rfl, hb9⟩
            have BE9 := Lib.hid (below_below BE.out BE.out.size hb9)
            clear hb9
            go_wp2_with fail
            go_ret
            exact ⟨rfl, BE9.out⟩
  · have hob : (f.1 == 0) = false := by simpa using hok
    have k0 : w7.cell? ⟨n6, 0, none⟩ = some (.int .i64 f.1) := (cell_of_row w7 n6 0 _ _ _ HX7.out).trans rfl
    have hru : 4 ≤ f.1 ∧ f.1 ≤ 7 := by
      rw [HF.out] at hok ⊢
      exact ver_rule _ _ hok
    obtain ⟨hr4, hr7⟩ := hru
    clear hok
    go_wp2_with fail
    refine (known_any w7).mono ?_
    rintro e w8 ⟨rfl, hb8⟩
    have HB8' := Lib.hid (below_below HAB2.out HAB2.out.size (below_below BB7.out BB7.out.size hb8))
    clear hb8
    go_wp2_with fail
    go_ret
    exact ⟨rfl, HB8'.out⟩
end Go.Proofs.Ytjakhemolecbnaa
end
