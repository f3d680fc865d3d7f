/-
  The walk of the reference's Prefix, of the chain.
-/
import Derived.Test.YthlbmjjodjepjaaRefEq
set_option linter.unusedVariables false
set_option linter.unusedSimpArgs false
namespace Go.Proofs.Ythlbmjjodjepjaa
open Go.RowKit

set_option maxRecDepth 100000 in
set_option maxHeartbeats 8000000 in
theorem refPrefix_any (A1 A2 : Option Addr) (n1 c1 n2 c2 : Nat) (M1 M2 : List (List UInt8 × List UInt8)) (w : World) (hl1 : M1.length = n1) (hl2 : M2.length = n2) (hn1 : n1 ≤ 100000) (hn2 : n2 ≤ 100000)
    (hh1 : ∀ x ∈ M1, x.2.length = 32) (hh2 : ∀ x ∈ M2, x.2.length = 32) (ht1 : ∀ x ∈ M1, x.1.length ≤ 1000000) (ht2 : ∀ x ∈ M2, x.1.length ≤ 1000000) (hr1 : RC w A1 (lv M1)) (hr2 : RC w A2 (lv M2)) :
    Calls Try.prog 50 #[.slice A1 n1 c1, .slice A2 n2 c2] w fun e w' => e = .returned (.bool (decide (M1.take (min n1 n2) = M2.take (min n1 n2)))) ∧ Below w.heap.size w w' := by
  subst hl1
  subst hl2
  obtain ⟨m, em⟩ : ∃ m, m = min M1.length M2.length := ⟨_, rfl⟩
  rw [← em]
  obtain ⟨R, eR⟩ : ∃ R, R = decide (M1.take m = M2.take m) := ⟨_, rfl⟩
  rw [← eR]
  have hm1 : m ≤ M1.length := by omega
  have hm2 : m ≤ M2.length := by omega
  have ER := Lib.hid eR
  have H1 := Lib.hid hr1
  have H2 := Lib.hid hr2
  have HH1 := Lib.hid hh1
  have HH2 := Lib.hid hh2
  have HT1 := Lib.hid ht1
  have HT2 := Lib.hid ht2
  have HM1 := Lib.hid hm1
  have HM2 := Lib.hid hm2
  have EM := Lib.hid em
  clear em eR hr1 hr2 hh1 hh2 ht1 ht2 hm1 hm2
  go_enter Try.func50, Try.ntmps50
  go_upto_if 12 with fail
  go_cut [5] (fun s5 wx => s5 = .int .i64 (m : Int) ∧ wx = w)
  case first =>
    by_cases hc : M2.length < M1.length
    · have hc' : (M2.length : Int) < (M1.length : Int) := by omega
      have hm : m = M2.length := by have := EM.out; omega
      clear hc
      go_wp2_with fail
      go_meet
      exact ⟨by rw [hm], rfl⟩
    · have hc' : ¬ ((M2.length : Int) < (M1.length : Int)) := by omega
      have hm : m = M1.length := by have := EM.out; omega
      clear hc
      go_wp2_with fail
      go_meet
      exact ⟨by rw [hm], rfl⟩
  case rest =>
  obtain ⟨rfl, rfl⟩ := hcut
  go_wp2_with fail
  go_loopg [6] m (fun k s6 wr => ∃ i : Nat, i ≤ m ∧ k = m - i ∧ s6 = .int .i64 (i : Int) ∧ M1.take i = M2.take i ∧ Below wc.heap.size wc wr)
  case atStart => exact ⟨0, Nat.zero_le _, by omega, rfl, rfl, Below.refl _ _⟩
  case round =>
    obtain ⟨i, hi, hk, rfl, heq, hb⟩ := hrel
    have HK := Lib.hid hk
    have HB := Lib.hid hb
    have HEQ := Lib.hid heq
    clear hk hb heq
    by_cases hlt : i < m
    · have hlt1 : i < M1.length := by have := HM1.out; omega
      have hlt2 : i < M2.length := by have := HM2.out; omega
      obtain ⟨b1, o1, rfl, e1⟩ := H1.out.parts (by rw [lv_length M1 HH1.out]; omega)
      obtain ⟨b2, o2, rfl, e2⟩ := H2.out.parts (by rw [lv_length M2 HH2.out]; omega)
      have RG1 := Lib.hid (lk_range HH1.out (fun j u hj => cell_below HB.out.drew (e1 j u hj)) i hlt1)
      have RG2 := Lib.hid (lk_range HH2.out (fun j u hj => cell_below HB.out.drew (e2 j u hj)) i hlt2)
      have hx1 := HH1.out _ (List.getElem_mem hlt1)
      have hx2 := HH2.out _ (List.getElem_mem hlt2)
      have HQ := Lib.hid (fun W => eqLk2 M1[i] M2[i] (HT1.out _ (List.getElem_mem hlt1)) (HT2.out _ (List.getElem_mem hlt2)) hx1 hx2 W)
      have t1 := List.take_succ_eq_append_getElem hlt1
      have t2 := List.take_succ_eq_append_getElem hlt2
      obtain ⟨q, eq⟩ : ∃ q, q = decide (M1[i] = M2[i]) := ⟨_, rfl⟩
      rw [← eq] at HQ
      have HE1 := Lib.hid (show q = true → M1.take (i + 1) = M2.take (i + 1) by
        intro h
        rw [t1, t2, HEQ.out, of_decide_eq_true (eq.symm.trans h)])
      have HE2 := Lib.hid (show q = false → R = false by
        intro h
        rw [ER.out, decide_eq_false_iff_not]
        intro h2
        have h3 := of_decide_eq_false (eq.symm.trans h)
        apply h3
        have h4 := congrArg (fun l => l[i]?) h2
        simp only [List.getElem?_take, hlt, if_true, List.getElem?_eq_getElem hlt1, List.getElem?_eq_getElem hlt2, Option.some.injEq] at h4
        exact h4)
      have il1 : (Try.prog.info? 84).map (·.size) = some (lk M1[i]).length := by rw [lk_length _ hx1]; exact info33r
      have il2 : (Try.prog.info? 84).map (·.size) = some (lk M2[i]).length := by rw [lk_length _ hx2]; exact info33r
      obtain ⟨x1, ex1⟩ : ∃ x1, x1 = lk M1[i] := ⟨_, rfl⟩
      obtain ⟨x2, ex2⟩ : ∃ x2, x2 = lk M2[i] := ⟨_, rfl⟩
      rw [← ex1] at RG1 il1 HQ
      rw [← ex2] at RG2 il2 HQ
      have IL1 := Lib.hid il1
      have IL2 := Lib.hid il2
      have hi0 : (0 : Int) ≤ (i : Int) := by omega
      have hi1 : (i : Int) < (M1.length : Int) := by omega
      have hi2 : (i : Int) < (M2.length : Int) := by omega
      have HLT := Lib.hid hlt
      clear e1 e2 hx1 hx2 t1 t2 eq il1 il2 ex1 ex2 hlt hi hlt1 hlt2
      go_upto_region 7 with fail
      refine region_by (fun W => W = wr.drew) [(fun v _ => v = .slice (some ⟨b1, o1, none⟩) M1.length c1), (fun v _ => v = .int .i64 (i : Int)), (fun v _ => v = .pointer (some ⟨b1, o1 + i * 33, none⟩)), fun v _ => v = .agg x1.toArray, (fun v _ => v = .slice (some ⟨b2, o2, none⟩) M2.length c2), (fun v _ => v = .int .i64 (i : Int)), (fun v _ => v = .pointer (some ⟨b2, o2 + i * 33, none⟩)), fun v _ => v = .agg x2.toArray, fun v _ => v = .bool (!q)] (by kernel_rfl) (by kernel_rfl) (by kernel_rfl) rfl (rfl) ?ok7 ?fin7
      case ok7 =>
        refine ⟨?_, ?_, ?_, ?_, ?_, ?_, ?_, ?_, ?_, trivial⟩
        · intro a' w' K hI hd hq hK
          have e0 : a'.eval (.tmp 0) = .slice (some ⟨b1, o1, none⟩) M1.length c1 := (hq 0 (by kernel_rfl)).trans rfl
          clear hd hq
          refine op_value (wanted_free _ _ (by rfl)) (v := .slice (some ⟨b1, o1, none⟩) M1.length c1) (w'' := w') ?_ (hK _ _ hI (fun _ _ h => h) rfl)
          clear hK
          simp only [execOp, e0]
          have f0 : a'.tmps[0]?.getD undef = .slice (some ⟨b1, o1, none⟩) M1.length c1 := (Array.getD_eq_getD_getElem? ..).symm.trans e0
          clear e0
          first | rfl | (go_simp <;> exact IntWalk.i64_in _ (by omega))
        · intro a' w' K hI hd hq hK
          have e6 : a'.eval (.tmp 6) = .int .i64 (i : Int) := (hq 6 (by kernel_rfl)).trans rfl
          clear hd hq
          refine op_value (wanted_free _ _ (by rfl)) (v := .int .i64 (i : Int)) (w'' := w') ?_ (hK _ _ hI (fun _ _ h => h) rfl)
          clear hK
          simp only [execOp, e6]
          have f6 : a'.tmps[6]?.getD undef = .int .i64 (i : Int) := (Array.getD_eq_getD_getElem? ..).symm.trans e6
          clear e6
          first | rfl | (go_simp <;> exact IntWalk.i64_in _ (by omega))
        · intro a' w' K hI hd hq hK
          have e20 : a'.eval (.tmp 20) = .slice (some ⟨b1, o1, none⟩) M1.length c1 := (hd 0 20 (by kernel_rfl))
          have e21 : a'.eval (.tmp 21) = .int .i64 (i : Int) := (hd 1 21 (by kernel_rfl))
          clear hd hq
          refine op_value (wanted_free _ _ (by rfl)) (v := .pointer (some ⟨b1, o1 + i * 33, none⟩)) (w'' := w') ?_ (hK _ _ hI (fun _ _ h => h) rfl)
          clear hK
          simp only [execOp, e20, e21]
          have f20 : a'.tmps[20]?.getD undef = .slice (some ⟨b1, o1, none⟩) M1.length c1 := (Array.getD_eq_getD_getElem? ..).symm.trans e20
          have f21 : a'.tmps[21]?.getD undef = .int .i64 (i : Int) := (Array.getD_eq_getD_getElem? ..).symm.trans e21
          clear e20 e21
          first | rfl | (go_simp <;> exact IntWalk.i64_in _ (by omega))
        · intro a' w' K hI hd hq hK
          have e22 : a'.eval (.tmp 22) = .pointer (some ⟨b1, o1 + i * 33, none⟩) := (hd 2 22 (by kernel_rfl))
          clear hd hq
          subst hI
          refine op_value (wanted_free _ _ (by rfl)) (v := .agg x1.toArray) (w'' := wr.drew) ?_ (hK _ _ rfl (fun _ _ h => h) rfl)
          simp only [execOp, e22, Instr.loadAt, Instr.sureAddr, Sem.run_bind, Sem.run_pure, Result.andThen_ok, run_loadVar_mid wr.drew b1 (o1 + i * 33) 84 x1 _ RG1.out Try.underlying84 rfl IL1.out]
        · intro a' w' K hI hd hq hK
          have e1 : a'.eval (.tmp 1) = .slice (some ⟨b2, o2, none⟩) M2.length c2 := (hq 1 (by kernel_rfl)).trans rfl
          clear hd hq
          refine op_value (wanted_free _ _ (by rfl)) (v := .slice (some ⟨b2, o2, none⟩) M2.length c2) (w'' := w') ?_ (hK _ _ hI (fun _ _ h => h) rfl)
          clear hK
          simp only [execOp, e1]
          have f1 : a'.tmps[1]?.getD undef = .slice (some ⟨b2, o2, none⟩) M2.length c2 := (Array.getD_eq_getD_getElem? ..).symm.trans e1
          clear e1
          first | rfl | (go_simp <;> exact IntWalk.i64_in _ (by omega))
        · intro a' w' K hI hd hq hK
          have e6 : a'.eval (.tmp 6) = .int .i64 (i : Int) := (hq 6 (by kernel_rfl)).trans rfl
          clear hd hq
          refine op_value (wanted_free _ _ (by rfl)) (v := .int .i64 (i : Int)) (w'' := w') ?_ (hK _ _ hI (fun _ _ h => h) rfl)
          clear hK
          simp only [execOp, e6]
          have f6 : a'.tmps[6]?.getD undef = .int .i64 (i : Int) := (Array.getD_eq_getD_getElem? ..).symm.trans e6
          clear e6
          first | rfl | (go_simp <;> exact IntWalk.i64_in _ (by omega))
        · intro a' w' K hI hd hq hK
          have e24 : a'.eval (.tmp 24) = .slice (some ⟨b2, o2, none⟩) M2.length c2 := (hd 4 24 (by kernel_rfl))
          have e25 : a'.eval (.tmp 25) = .int .i64 (i : Int) := (hd 5 25 (by kernel_rfl))
          clear hd hq
          refine op_value (wanted_free _ _ (by rfl)) (v := .pointer (some ⟨b2, o2 + i * 33, none⟩)) (w'' := w') ?_ (hK _ _ hI (fun _ _ h => h) rfl)
          clear hK
          simp only [execOp, e24, e25]
          have f24 : a'.tmps[24]?.getD undef = .slice (some ⟨b2, o2, none⟩) M2.length c2 := (Array.getD_eq_getD_getElem? ..).symm.trans e24
          have f25 : a'.tmps[25]?.getD undef = .int .i64 (i : Int) := (Array.getD_eq_getD_getElem? ..).symm.trans e25
          clear e24 e25
          first | rfl | (go_simp <;> exact IntWalk.i64_in _ (by omega))
        · intro a' w' K hI hd hq hK
          have e26 : a'.eval (.tmp 26) = .pointer (some ⟨b2, o2 + i * 33, none⟩) := (hd 6 26 (by kernel_rfl))
          clear hd hq
          subst hI
          refine op_value (wanted_free _ _ (by rfl)) (v := .agg x2.toArray) (w'' := wr.drew) ?_ (hK _ _ rfl (fun _ _ h => h) rfl)
          simp only [execOp, e26, Instr.loadAt, Instr.sureAddr, Sem.run_bind, Sem.run_pure, Result.andThen_ok, run_loadVar_mid wr.drew b2 (o2 + i * 33) 84 x2 _ RG2.out Try.underlying84 rfl IL2.out]
        · intro a' w' K hI hd hq hK
          have e23 : a'.eval (.tmp 23) = .agg x1.toArray := (hd 3 23 (by kernel_rfl))
          have e27 : a'.eval (.tmp 27) = .agg x2.toArray := (hd 7 27 (by kernel_rfl))
          clear hd hq
          refine op_value (wanted_free _ _ (by rfl)) (v := .bool (!q)) (w'' := w') ?_ (hK _ _ hI (fun _ _ h => h) rfl)
          simp only [execOp, e23, e27, Sem.run_bind, run_eqGuard_agg w' _ 84 _ _ _ _ (show Try.prog.eqGuardType Try.prog.depth 84 = false by kernel_rfl), run_neq_struct, HQ.out w', Result.andThen_ok, Sem.run_pure]
      case fin7 =>
        rintro w' hI _ rfl _ rfl _ rfl _ rfl _ rfl _ rfl _ rfl _ rfl _ rfl
        simp only [Act.put, List.setIfInBounds_toArray, List.set_cons_zero, List.set_cons_succ, FinGoal]
        cases q with
        | true =>
          go_wp2_with fail
          go_roundg (m - (i + 1))
          case measure => have := HK.out; have := HLT.out; omega
          case rel => exact ⟨i + 1, HLT.out, rfl, by go_num, HE1.out (by first | trivial | rfl), HB.out.drew⟩
        | false =>
          go_wp2_with fail
          go_ret
          rw [HE2.out (by first | trivial | rfl)]
          exact ⟨rfl, HB.out.drew⟩
    · obtain rfl : i = m := by omega
      have HRT := Lib.hid (show R = true by rw [ER.out, decide_eq_true_iff]; exact HEQ.out)
      clear hlt hi
      go_wp2_with fail
      go_ret
      rw [HRT.out]
      exact ⟨rfl, HB.out⟩

end Go.Proofs.Ythlbmjjodjepjaa
