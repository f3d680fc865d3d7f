/-
  The walk of Prefix, of the chain.
-/
import Derived.Test.YthlbmjjodjepjaaChainFew
import Derived.Test.YthlbmjjodjepjaaOutline
set_option linter.unusedVariables false
set_option linter.unusedSimpArgs false
namespace Go.Proofs.Ythlbmjjodjepjaa
open Go.RowKit

set_option maxRecDepth 100000 in
set_option maxHeartbeats 8000000 in
theorem prefix_any (A1 A2 : Option Addr) (n1 c1 n2 c2 : Nat) (M1 M2 : List (List UInt8 × List UInt8)) (w : World) (hl1 : M1.length = n1) (hl2 : M2.length = n2) (hn1 : n1 ≤ 100000) (hn2 : n2 ≤ 100000)
    (hh1 : ∀ x ∈ M1, x.2.length = 32) (hh2 : ∀ x ∈ M2, x.2.length = 32) (ht1 : ∀ x ∈ M1, x.1.length ≤ 1000000) (ht2 : ∀ x ∈ M2, x.1.length ≤ 1000000) (hr1 : RC w A1 (lv M1)) (hr2 : RC w A2 (lv M2)) :
    Calls Try.prog 19 #[.slice A1 n1 c1, .slice A2 n2 c2] w fun e w' => e = .returned (.bool (decide (M1.take (min n1 n2) = M2.take (min n1 n2)))) ∧ Below w.heap.size w w' := by
  subst hl1
  subst hl2
  obtain ⟨m, em⟩ : ∃ m, m = min M1.length M2.length := ⟨_, rfl⟩
  rw [← em]
  obtain ⟨R, eR⟩ : ∃ R, R = decide (M1.take m = M2.take m) := ⟨_, rfl⟩
  rw [← eR]
  have hm1 : m ≤ M1.length := by omega
  have hm2 : m ≤ M2.length := by omega
  have ER := Lib.hid eR
  have H1 := Lib.hid hr1
  have H2 := Lib.hid hr2
  have HH1 := Lib.hid hh1
  have HH2 := Lib.hid hh2
  have HT1 := Lib.hid ht1
  have HT2 := Lib.hid ht2
  have HM1 := Lib.hid hm1
  have HM2 := Lib.hid hm2
  have EM := Lib.hid em
  clear em eR hr1 hr2 hh1 hh2 ht1 ht2 hm1 hm2
  go_enter Try.func19, Try.ntmps19
  go_upto_block 0 with fail
  rw [show min (M1.length : Int) (M2.length : Int) = (m : Int) by have := EM.out; omega]
  go_wp2_with fail
  go_loopg [11] m (fun k s11 wr => ∃ i : Nat, i ≤ m ∧ k = m - i ∧ s11 = .int .i64 (i : Int) ∧ M1.take i = M2.take i ∧ Below w.heap.size w wr)
  case atStart => exact ⟨0, Nat.zero_le _, by omega, rfl, rfl, Below.refl _ _⟩
  case round =>
    obtain ⟨i, hi, hk, rfl, heq, hb⟩ := hrel
    have HK := Lib.hid hk
    have HB := Lib.hid hb
    have HEQ := Lib.hid heq
    clear hk hb heq
    by_cases hlt : i < m
    · have hlt1 : i < M1.length := by have := HM1.out; omega
      have hlt2 : i < M2.length := by have := HM2.out; omega
      obtain ⟨b1, o1, rfl, e1⟩ := H1.out.parts (by rw [lv_length M1 HH1.out]; omega)
      obtain ⟨b2, o2, rfl, e2⟩ := H2.out.parts (by rw [lv_length M2 HH2.out]; omega)
      have RG1 := Lib.hid (lk_range HH1.out (fun j u hj => cell_below HB.out.drew (e1 j u hj)) i hlt1)
      have RG2 := Lib.hid (lk_range HH2.out (fun j u hj => cell_below HB.out.drew (e2 j u hj)) i hlt2)
      have hx1 := HH1.out _ (List.getElem_mem hlt1)
      have hx2 := HH2.out _ (List.getElem_mem hlt2)
      have HQ := Lib.hid (fun W => eqLk M1[i] M2[i] (HT1.out _ (List.getElem_mem hlt1)) (HT2.out _ (List.getElem_mem hlt2)) hx1 hx2 W)
      have t1 := List.take_succ_eq_append_getElem hlt1
      have t2 := List.take_succ_eq_append_getElem hlt2
      obtain ⟨q, eq⟩ : ∃ q, q = decide (M1[i] = M2[i]) := ⟨_, rfl⟩
      rw [← eq] at HQ
      have HE1 := Lib.hid (show q = true → M1.take (i + 1) = M2.take (i + 1) by
        intro h
        rw [t1, t2, HEQ.out, of_decide_eq_true (eq.symm.trans h)])
      have HE2 := Lib.hid (show q = false → R = false by
        intro h
        rw [ER.out, decide_eq_false_iff_not]
        intro h2
        have h3 := of_decide_eq_false (eq.symm.trans h)
        apply h3
        have h4 := congrArg (fun l => l[i]?) h2
        simp only [List.getElem?_take, hlt, if_true, List.getElem?_eq_getElem hlt1, List.getElem?_eq_getElem hlt2, Option.some.injEq] at h4
        exact h4)
      have il1 : (Try.prog.info? 30).map (·.size) = some (lk M1[i]).length := by rw [lk_length _ hx1]; exact info33
      have il2 : (Try.prog.info? 30).map (·.size) = some (lk M2[i]).length := by rw [lk_length _ hx2]; exact info33
      obtain ⟨x1, ex1⟩ : ∃ x1, x1 = lk M1[i] := ⟨_, rfl⟩
      obtain ⟨x2, ex2⟩ : ∃ x2, x2 = lk M2[i] := ⟨_, rfl⟩
      rw [← ex1] at RG1 il1 HQ
      rw [← ex2] at RG2 il2 HQ
      have IL1 := Lib.hid il1
      have IL2 := Lib.hid il2
      have hi0 : (0 : Int) ≤ (i : Int) := by omega
      have hi1 : (i : Int) < (M1.length : Int) := by omega
      have hi2 : (i : Int) < (M2.length : Int) := by omega
      have HLT := Lib.hid hlt
      clear e1 e2 hx1 hx2 t1 t2 eq il1 il2 ex1 ex2 hlt hi hlt1 hlt2
      go_upto_region 4 with fail
      refine region_by (fun W => W = wr.drew) [(fun v _ => v = .slice (some ⟨b1, o1, none⟩) M1.length c1), (fun v _ => v = .int .i64 (i : Int)), (fun v _ => v = .pointer (some ⟨b1, o1 + i * 33, none⟩)), fun v _ => v = .agg x1.toArray, (fun v _ => v = .slice (some ⟨b2, o2, none⟩) M2.length c2), (fun v _ => v = .int .i64 (i : Int)), (fun v _ => v = .pointer (some ⟨b2, o2 + i * 33, none⟩)), fun v _ => v = .agg x2.toArray, fun v _ => v = .bool (!q)] (by kernel_rfl) (by kernel_rfl) (by kernel_rfl) rfl (rfl) ?ok4 ?fin4
      case ok4 =>
        refine ⟨?_, ?_, ?_, ?_, ?_, ?_, ?_, ?_, ?_, trivial⟩
        · intro a' w' K hI hd hq hK
          have e0 : a'.eval (.tmp 0) = .slice (some ⟨b1, o1, none⟩) M1.length c1 := (hq 0 (by kernel_rfl)).trans rfl
          clear hd hq
          refine op_value (wanted_free _ _ (by rfl)) (v := .slice (some ⟨b1, o1, none⟩) M1.length c1) (w'' := w') ?_ (hK _ _ hI (fun _ _ h => h) rfl)
          clear hK
          simp only [execOp, e0]
          have f0 : a'.tmps[0]?.getD undef = .slice (some ⟨b1, o1, none⟩) M1.length c1 := (Array.getD_eq_getD_getElem? ..).symm.trans e0
          clear e0
          first | rfl | (go_simp <;> exact IntWalk.i64_in _ (by omega))
        · intro a' w' K hI hd hq hK
          have e5 : a'.eval (.tmp 5) = .int .i64 (i : Int) := (hq 5 (by kernel_rfl)).trans rfl
          clear hd hq
          refine op_value (wanted_free _ _ (by rfl)) (v := .int .i64 (i : Int)) (w'' := w') ?_ (hK _ _ hI (fun _ _ h => h) rfl)
          clear hK
          simp only [execOp, e5]
          have f5 : a'.tmps[5]?.getD undef = .int .i64 (i : Int) := (Array.getD_eq_getD_getElem? ..).symm.trans e5
          clear e5
          first | rfl | (go_simp <;> exact IntWalk.i64_in _ (by omega))
        · intro a' w' K hI hd hq hK
          have e14 : a'.eval (.tmp 14) = .slice (some ⟨b1, o1, none⟩) M1.length c1 := (hd 0 14 (by kernel_rfl))
          have e15 : a'.eval (.tmp 15) = .int .i64 (i : Int) := (hd 1 15 (by kernel_rfl))
          clear hd hq
          refine op_value (wanted_free _ _ (by rfl)) (v := .pointer (some ⟨b1, o1 + i * 33, none⟩)) (w'' := w') ?_ (hK _ _ hI (fun _ _ h => h) rfl)
          clear hK
          simp only [execOp, e14, e15]
          have f14 : a'.tmps[14]?.getD undef = .slice (some ⟨b1, o1, none⟩) M1.length c1 := (Array.getD_eq_getD_getElem? ..).symm.trans e14
          have f15 : a'.tmps[15]?.getD undef = .int .i64 (i : Int) := (Array.getD_eq_getD_getElem? ..).symm.trans e15
          clear e14 e15
          first | rfl | (go_simp <;> exact IntWalk.i64_in _ (by omega))
        · intro a' w' K hI hd hq hK
          have e16 : a'.eval (.tmp 16) = .pointer (some ⟨b1, o1 + i * 33, none⟩) := (hd 2 16 (by kernel_rfl))
          clear hd hq
          subst hI
          refine op_value (wanted_free _ _ (by rfl)) (v := .agg x1.toArray) (w'' := wr.drew) ?_ (hK _ _ rfl (fun _ _ h => h) rfl)
          simp only [execOp, e16, Instr.loadAt, Instr.sureAddr, Sem.run_bind, Sem.run_pure, Result.andThen_ok, run_loadVar_mid wr.drew b1 (o1 + i * 33) 30 x1 _ RG1.out Try.underlying30 rfl IL1.out]
        · intro a' w' K hI hd hq hK
          have e1 : a'.eval (.tmp 1) = .slice (some ⟨b2, o2, none⟩) M2.length c2 := (hq 1 (by kernel_rfl)).trans rfl
          clear hd hq
          refine op_value (wanted_free _ _ (by rfl)) (v := .slice (some ⟨b2, o2, none⟩) M2.length c2) (w'' := w') ?_ (hK _ _ hI (fun _ _ h => h) rfl)
          clear hK
          simp only [execOp, e1]
          have f1 : a'.tmps[1]?.getD undef = .slice (some ⟨b2, o2, none⟩) M2.length c2 := (Array.getD_eq_getD_getElem? ..).symm.trans e1
          clear e1
          first | rfl | (go_simp <;> exact IntWalk.i64_in _ (by omega))
        · intro a' w' K hI hd hq hK
          have e5 : a'.eval (.tmp 5) = .int .i64 (i : Int) := (hq 5 (by kernel_rfl)).trans rfl
          clear hd hq
          refine op_value (wanted_free _ _ (by rfl)) (v := .int .i64 (i : Int)) (w'' := w') ?_ (hK _ _ hI (fun _ _ h => h) rfl)
          clear hK
          simp only [execOp, e5]
          have f5 : a'.tmps[5]?.getD undef = .int .i64 (i : Int) := (Array.getD_eq_getD_getElem? ..).symm.trans e5
          clear e5
          first | rfl | (go_simp <;> exact IntWalk.i64_in _ (by omega))
        · intro a' w' K hI hd hq hK
          have e18 : a'.eval (.tmp 18) = .slice (some ⟨b2, o2, none⟩) M2.length c2 := (hd 4 18 (by kernel_rfl))
          have e19 : a'.eval (.tmp 19) = .int .i64 (i : Int) := (hd 5 19 (by kernel_rfl))
          clear hd hq
          refine op_value (wanted_free _ _ (by rfl)) (v := .pointer (some ⟨b2, o2 + i * 33, none⟩)) (w'' := w') ?_ (hK _ _ hI (fun _ _ h => h) rfl)
          clear hK
          simp only [execOp, e18, e19]
          have f18 : a'.tmps[18]?.getD undef = .slice (some ⟨b2, o2, none⟩) M2.length c2 := (Array.getD_eq_getD_getElem? ..).symm.trans e18
          have f19 : a'.tmps[19]?.getD undef = .int .i64 (i : Int) := (Array.getD_eq_getD_getElem? ..).symm.trans e19
          clear e18 e19
          first | rfl | (go_simp <;> exact IntWalk.i64_in _ (by omega))
        · intro a' w' K hI hd hq hK
          have e20 : a'.eval (.tmp 20) = .pointer (some ⟨b2, o2 + i * 33, none⟩) := (hd 6 20 (by kernel_rfl))
          clear hd hq
          subst hI
          refine op_value (wanted_free _ _ (by rfl)) (v := .agg x2.toArray) (w'' := wr.drew) ?_ (hK _ _ rfl (fun _ _ h => h) rfl)
          simp only [execOp, e20, Instr.loadAt, Instr.sureAddr, Sem.run_bind, Sem.run_pure, Result.andThen_ok, run_loadVar_mid wr.drew b2 (o2 + i * 33) 30 x2 _ RG2.out Try.underlying30 rfl IL2.out]
        · intro a' w' K hI hd hq hK
          have e17 : a'.eval (.tmp 17) = .agg x1.toArray := (hd 3 17 (by kernel_rfl))
          have e21 : a'.eval (.tmp 21) = .agg x2.toArray := (hd 7 21 (by kernel_rfl))
          clear hd hq
          refine op_value (wanted_free _ _ (by rfl)) (v := .bool (!q)) (w'' := w') ?_ (hK _ _ hI (fun _ _ h => h) rfl)
          simp only [execOp, e17, e21, Sem.run_bind, run_eqGuard_agg w' _ 30 _ _ _ _ (show Try.prog.eqGuardType Try.prog.depth 30 = false by kernel_rfl), run_neq_struct, HQ.out w', Result.andThen_ok, Sem.run_pure]
      case fin4 =>
        rintro w' hI _ rfl _ rfl _ rfl _ rfl _ rfl _ rfl _ rfl _ rfl _ rfl
        simp only [Act.put, List.setIfInBounds_toArray, List.set_cons_zero, List.set_cons_succ, FinGoal]
        cases q with
        | true =>
          go_wp2_with fail
          go_roundg (m - (i + 1))
          case measure => have := HK.out; have := HLT.out; omega
          case rel => exact ⟨i + 1, HLT.out, rfl, by go_num, HE1.out (by first | trivial | rfl), HB.out.drew⟩
        | false =>
          go_wp2_with fail
          go_ret
          rw [HE2.out (by first | trivial | rfl)]
          exact ⟨rfl, HB.out.drew⟩
    · obtain rfl : i = m := by omega
      have HRT := Lib.hid (show R = true by rw [ER.out, decide_eq_true_iff]; exact HEQ.out)
      clear hlt hi
      go_wp2_with fail
      go_ret
      rw [HRT.out]
      exact ⟨rfl, HB.out⟩

end Go.Proofs.Ythlbmjjodjepjaa
