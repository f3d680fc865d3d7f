/-
  The walk of the law ChainBack.
-/
import Derived.Test.YthlbmjjodjepjaaChainDecode
import Derived.Test.YthlbmjjodjepjaaWithin
set_option linter.unusedVariables false
set_option linter.unusedSimpArgs false
namespace Go.Proofs.Ythlbmjjodjepjaa
open Go.RowKit

theorem mkOf_part (F : List (List UInt8)) (k : Nat) : (mkOf F).take k = mkOf (F.take k) := by
  apply List.ext_getElem
  · rw [List.length_take, mkOf_length, mkOf_length, List.length_take]
  · intro i h1 h2
    have h3 : i < (mkOf F).length := by rw [List.length_take] at h1; omega
    have h4 : i < F.length := by rw [mkOf_length] at h3; exact h3
    have h5 : i < (F.take k).length := by rw [mkOf_length] at h2; exact h2
    rw [List.getElem_take, mkOf_get F i h3 h4, mkOf_get (F.take k) i h2 h5, List.getElem_take, List.take_take]
    congr 3
    rw [List.length_take] at h5
    omega

set_option maxRecDepth 100000 in
set_option maxHeartbeats 16000000 in
theorem chainBack_any (A : Option Addr) (n c : Nat) (L : List (List UInt8)) (cut : Int) (w : World) (hl : L.length = n) (hn : n ≤ 9223372036854775807) (hr : RS w A L) :
    Calls Try.prog 13 #[.slice A n c, .int .i64 cut] w fun e w' => e = .returned (.bool true) ∧ Below w.heap.size w w' := by
  subst hl
  have HL := Lib.hid hr
  clear hr
  obtain ⟨F, eF⟩ : ∃ F, F = fewOf L 10 := ⟨_, rfl⟩
  obtain ⟨N, eN⟩ : ∃ N, N = min 10 L.length := ⟨_, rfl⟩
  have hFl : F.length = N := by rw [eF, eN, fewOf_length]
  have hF4 : ∀ x ∈ F, x.length ≤ 4000 := fun x hx => by rw [eF] at hx; have := fewOf_small L 10 x hx; omega
  have hN : N ≤ 10 := by omega
  have EF := Lib.hid eF
  have EN := Lib.hid eN
  have HFL := Lib.hid hFl
  have HF4 := Lib.hid hF4
  have HFS := Lib.hid (show ∀ x ∈ F, x.length ≤ 1000000 from fun x hx => by have := hF4 x hx; omega)
  have HN := Lib.hid hN
  clear eF eN hFl hF4 hN
  go_enter Try.func13, Try.ntmps13
  go_wp2_with fail
  refine (few19_any A L.length c L 10 w rfl (by omega) HL.out).mono ?_
  rw [← EF.out, ← EN.out]
  rintro e w1 ⟨v0, rfl, ho, hb⟩
  obtain ⟨A0, c0, rfl, _⟩ := own_slice ho
  have O1 := Lib.hid ho
  have B1 := Lib.hid hb
  clear ho hb
  go_wp2_with fail
  refine (make_any A0 N c0 F w1 HFL.out (by have := HN.out; omega) HFS.out (own_RC O1.out)).mono ?_
  rw [HFL.out]
  rintro e w2 ⟨va, rfl, ho, hb⟩
  obtain ⟨Aa, ca, rfl, hca⟩ := own_slice ho
  have RA2 := Lib.hid (own_RC ho)
  have RF2 := Lib.hid ((own_RC O1.out).below hb)
  have B2 := Lib.hid (below_below B1.out B1.out.size hb)
  have HCA := Lib.hid hca
  clear ho hb O1 B1 hca
  have HML := Lib.hid (show (mkOf F).length = N by rw [mkOf_length, HFL.out])
  have HMH := Lib.hid (mkOf_heads F)
  have HMT := Lib.hid (mkOf_texts F 1000000 HFS.out)
  have HMT4 := Lib.hid (mkOf_texts F 4000 HF4.out)
  go_wp2_with fail
  refine (encode_any Aa N ca (mkOf F) w2 HML.out (by have := HN.out; omega) HMH.out HMT4.out RA2.out).mono ?_
  rintro e w3 ⟨v3, rfl, ho, hb⟩
  obtain ⟨g3, c3, rfl, _, _⟩ := own_form ho (by rw [encOf, List.length_append, be4n_length]; omega)
  have RE3 := Lib.hid (own_RC ho).bytes
  have RA3 := Lib.hid (RA2.out.below hb)
  have RF3 := Lib.hid (RF2.out.below hb)
  have B3 := Lib.hid (below_below B2.out B2.out.size hb)
  clear ho hb RA2 RF2 B2
  go_wp2_with fail
  refine (decode_made (some ⟨g3, 0, none⟩) _ c3 F w3 rfl (by have := HFL.out; have := HN.out; omega) HF4.out RE3.out (fun h => by cases h)).mono ?_
  rw [HFL.out]
  rintro e w4 ⟨v4, rfl, ho, hb⟩
  obtain ⟨Ab, cb, rfl, _⟩ := own_slice ho
  have RB4 := Lib.hid (own_RC ho)
  have RA4 := Lib.hid (RA3.out.below hb)
  have RF4 := Lib.hid (RF3.out.below hb)
  have B4 := Lib.hid (below_below B3.out B3.out.size hb)
  clear ho hb RA3 RF3 B3 RE3
  have hN10 := HN.out
  go_wp2_with fail
  refine (within_any cut 0 (N : Int) _ (by omega) (by omega) (by omega) (by omega)).mono ?_
  obtain ⟨k, hk⟩ : ∃ k : Nat, withinOf cut 0 (N : Int) = (k : Int) := ⟨(withinOf cut 0 (N : Int)).toNat, by have := withinOf_range cut 0 (N : Int) (by omega); omega⟩
  have hkN : k ≤ N := by have := withinOf_range cut 0 (N : Int) (by omega); omega
  rw [hk]
  rintro e w4' ⟨rfl, rfl⟩
  have HKN := Lib.hid hkN
  have hkc : (k : Int) ≤ (ca : Int) := by have := HCA.out; omega
  have hk0 : (0 : Int) ≤ (k : Int) := by omega
  clear hk hkN hN10
  go_wp2_with fail
  refine (check_made Aa N ca F w4 HFL.out (by have := HN.out; omega) HFS.out RA4.out).mono ?_
  rintro e w5 ⟨rfl, hb⟩
  have RB5 := Lib.hid (RB4.out.below hb)
  have RA5 := Lib.hid (RA4.out.below hb)
  have RF5 := Lib.hid (RF4.out.below hb)
  have B5 := Lib.hid (below_below B4.out B4.out.size hb)
  clear hb RA4 RF4 B4 RB4
  have HKL := Lib.hid (show (F.take k).length = k by rw [List.length_take, HFL.out]; have := HKN.out; omega)
  have HKS := Lib.hid (show ∀ x ∈ F.take k, x.length ≤ 1000000 from fun x hx => HFS.out x (List.mem_of_mem_take hx))
  go_wp2_with fail
  refine (check_made Aa k ca (F.take k) w5 HKL.out (by have := HKN.out; have := HN.out; omega) HKS.out (by rw [← mkOf_part]; exact RLk_take RA5.out k)).mono ?_
  rintro e w6 ⟨rfl, hb⟩
  have RB6 := Lib.hid (RB5.out.below hb)
  have RA6 := Lib.hid (RA5.out.below hb)
  have RF6 := Lib.hid (RF5.out.below hb)
  have B6 := Lib.hid (below_below B5.out B5.out.size hb)
  clear hb RA5 RF5 B5 RB5
  have HPL := Lib.hid (show ((mkOf F).take k).length = k by rw [List.length_take, HML.out]; have := HKN.out; omega)
  have HPH := Lib.hid (show ∀ x ∈ (mkOf F).take k, x.2.length = 32 from fun x hx => HMH.out x (List.mem_of_mem_take hx))
  have HPT := Lib.hid (show ∀ x ∈ (mkOf F).take k, x.1.length ≤ 1000000 from fun x hx => HMT.out x (List.mem_of_mem_take hx))
  have HT1 := Lib.hid (show ((mkOf F).take k).take (min k N) = (mkOf F).take (min k N) by
    rw [List.take_take]; congr 1; have := HKN.out; omega)
  have HT2 := Lib.hid (show (mkOf F).take (min N k) = ((mkOf F).take k).take (min N k) by
    rw [List.take_take]; congr 1; have := HKN.out; omega)
  go_wp2_with fail
  refine (prefix_any Aa Aa k ca N ca ((mkOf F).take k) (mkOf F) w6 HPL.out HML.out (by have := HKN.out; have := HN.out; omega) (by have := HN.out; omega) HPH.out HMH.out HPT.out HMT.out (RLk_take RA6.out k) RA6.out).mono ?_
  rw [decide_eq_true HT1.out]
  rintro e w7 ⟨rfl, hb⟩
  have RB7 := Lib.hid (RB6.out.below hb)
  have RA7 := Lib.hid (RA6.out.below hb)
  have RF7 := Lib.hid (RF6.out.below hb)
  have B7 := Lib.hid (below_below B6.out B6.out.size hb)
  clear hb RA6 RF6 B6 RB6
  go_wp2_with fail
  refine (prefix_any Aa Aa N ca k ca (mkOf F) ((mkOf F).take k) w7 HML.out HPL.out (by have := HN.out; omega) (by have := HKN.out; have := HN.out; omega) HMH.out HPH.out HMT.out HPT.out RA7.out (RLk_take RA7.out k)).mono ?_
  rw [decide_eq_true HT2.out]
  rintro e w8 ⟨rfl, hb⟩
  have HRB := Lib.hid (show ∀ W, Below w8.heap.size w8 W → RC W Ab (lv (mkOf F)) from fun W h => (RB7.out.below hb).below h)
  have HRA := Lib.hid (show ∀ W, Below w8.heap.size w8 W → RC W Aa (lv (mkOf F)) from fun W h => (RA7.out.below hb).below h)
  have HRF := Lib.hid (show ∀ W, Below w8.heap.size w8 W → RS W A0 F from fun W h => (RF7.out.below hb).below h)
  have B8 := Lib.hid (below_below B7.out B7.out.size hb)
  have hNi : (N : Int) ≤ 10 := by have := HN.out; omega
  clear hb RA7 RF7 B7 RB7 hkc hk0
  go_wp2_with fail
  go_loopg [10] N (fun kk s10 wr => ∃ i : Nat, i ≤ N ∧ kk = N - i ∧ s10 = .int .i64 (i : Int) ∧ Below w8.heap.size w8 wr)
  case atStart => exact ⟨0, Nat.zero_le _, by omega, rfl, Below.refl _ _⟩
  case round =>
    obtain ⟨i, hi, hkk, rfl, hb⟩ := hrel
    have HK := Lib.hid hkk
    have HB := Lib.hid hb
    clear hkk hb
    by_cases hlt : i < N
    · have hiF : i < F.length := by rw [HFL.out]; exact hlt
      have hiM : i < (mkOf F).length := by rw [HML.out]; exact hlt
      obtain ⟨b0, o0, rfl, _⟩ := (HRF.out wr HB.out).parts (by rw [sv_length]; omega)
      obtain ⟨ba, oa, rfl, _⟩ := (HRA.out wr HB.out).parts (by rw [lv_length _ HMH.out]; omega)
      obtain ⟨bb, ob, rfl, _⟩ := (HRB.out wr HB.out).parts (by rw [lv_length _ HMH.out]; omega)
      have hxs : (F[i]).length ≤ 1000000 := HFS.out _ (List.getElem_mem hiF)
      obtain ⟨h2, eh2⟩ : ∃ h2, h2 = headOf (F.take (i + 1)) := ⟨_, rfl⟩
      have hhl2 : h2.length = 32 := by rw [eh2]; exact headOf_length _
      have hst : wr.cell? ⟨b0, o0 + i, none⟩ = some (.string (strB F[i])) := by
        obtain ⟨ad, e, hc⟩ := HRF.out wr HB.out (by rw [sv_length]; omega)
        cases e
        have := hc i _ (sv_get' F i hiF)
        rwa [add_off] at this
      have hra : wr.rangeAt ba (oa + i * 33) (lk (F[i], h2)) := by
        obtain ⟨ad, e, hc⟩ := HRA.out wr HB.out (by rw [lv_length _ HMH.out]; omega)
        cases e
        have := lk_range HMH.out (fun j u hj => by have := hc j u hj; rwa [add_off] at this) i hiM
        rwa [mkOf_get F i hiM hiF, ← eh2] at this
      have hrb : wr.rangeAt bb (ob + i * 33) (lk (F[i], h2)) := by
        obtain ⟨ad, e, hc⟩ := HRB.out wr HB.out (by rw [lv_length _ HMH.out]; omega)
        cases e
        have := lk_range HMH.out (fun j u hj => by have := hc j u hj; rwa [add_off] at this) i hiM
        rwa [mkOf_get F i hiM hiF, ← eh2] at this
      generalize F[i] = x at *
      have hlkl := lk_length (x, h2) hhl2
      have hil : (Try.prog.info? 30).map (·.size) = some (lk (x, h2)).length := by rw [hlkl]; exact info33
      have HEQ := Lib.hid (show ∀ W, (Op.equalIn 10000 30 (.agg (lk (x, h2)).toArray) (.agg (lk (x, h2)).toArray)).run Try.prog W = .ok true W by
        intro W
        rw [eqLk (x, h2) (x, h2) hxs hxs hhl2 hhl2, decide_eq_true rfl])
      have hs0 : wr.cell? ⟨ba, oa + i * 33, none⟩ = some (.string (strB x)) := hra 0 _ rfl
      obtain ⟨lc, elc⟩ : ∃ lc, lc = lk (x, h2) := ⟨_, rfl⟩
      rw [← elc] at hra hrb hil HEQ
      have RGA := Lib.hid hra
      have RGB := Lib.hid hrb
      have HIL := Lib.hid hil
      obtain ⟨sx, esx⟩ : ∃ sx, sx = strB x := ⟨_, rfl⟩
      rw [← esx] at hst hs0
      have HST := Lib.hid hst
      have HS0 := Lib.hid hs0
      have hi0 : (0 : Int) ≤ (i : Int) := by omega
      have hi1 : (i : Int) < (N : Int) := by omega
      have HLT := Lib.hid hlt
      clear hiF hiM hxs eh2 hhl2 hst hra hrb hlkl hil hs0 elc esx hlt hi
      go_upto_region 10 with fail
      refine region_by (fun W => W = wr.drew) [(fun v _ => v = .slice (some ⟨bb, ob, none⟩) N cb), (fun v _ => v = .int .i64 (i : Int)), (fun v _ => v = .pointer (some ⟨bb, ob + i * 33, none⟩)), fun v _ => v = .agg lc.toArray, (fun v _ => v = .slice (some ⟨ba, oa, none⟩) N ca), (fun v _ => v = .int .i64 (i : Int)), (fun v _ => v = .pointer (some ⟨ba, oa + i * 33, none⟩)), fun v _ => v = .agg lc.toArray, fun v _ => v = .bool false, (fun v _ => v = .bool false), (fun v _ => v = .slice (some ⟨ba, oa, none⟩) N ca), (fun v _ => v = .int .i64 (i : Int)), (fun v _ => v = .pointer (some ⟨ba, oa + i * 33, none⟩)), (fun v _ => v = .pointer (some ⟨ba, oa + i * 33, none⟩)), (fun v _ => v = .string sx), (fun v _ => v = .slice (some ⟨b0, o0, none⟩) N c0), (fun v _ => v = .int .i64 (i : Int)), (fun v _ => v = .pointer (some ⟨b0, o0 + i, none⟩)), (fun v _ => v = .string sx), (fun v _ => v = .bool false), (fun v _ => v = .bool false)] (by kernel_rfl) (by kernel_rfl) (by kernel_rfl) rfl (rfl) ?ok10 ?fin10
      case ok10 =>
        refine ⟨?_, ?_, ?_, ?_, ?_, ?_, ?_, ?_, ?_, ?_, ?_, ?_, ?_, ?_, ?_, ?_, ?_, ?_, ?_, ?_, ?_, trivial⟩
        · intro a' w' K hI hd hq hK
          have e6 : a'.eval (.tmp 6) = .slice (some ⟨bb, ob, none⟩) N cb := (hq 6 (by kernel_rfl)).trans rfl
          clear hd hq
          refine op_value (wanted_free _ _ (by rfl)) (v := .slice (some ⟨bb, ob, none⟩) N cb) (w'' := w') ?_ (hK _ _ hI (fun _ _ h => h) rfl)
          clear hK
          simp only [execOp, e6]
          have f6 : a'.tmps[6]?.getD undef = .slice (some ⟨bb, ob, none⟩) N cb := (Array.getD_eq_getD_getElem? ..).symm.trans e6
          clear e6
          first | rfl | (go_simp <;> exact IntWalk.i64_in _ (by omega))
        · intro a' w' K hI hd hq hK
          have e10 : a'.eval (.tmp 10) = .int .i64 (i : Int) := (hq 10 (by kernel_rfl)).trans rfl
          clear hd hq
          refine op_value (wanted_free _ _ (by rfl)) (v := .int .i64 (i : Int)) (w'' := w') ?_ (hK _ _ hI (fun _ _ h => h) rfl)
          clear hK
          simp only [execOp, e10]
          have f10 : a'.tmps[10]?.getD undef = .int .i64 (i : Int) := (Array.getD_eq_getD_getElem? ..).symm.trans e10
          clear e10
          first | rfl | (go_simp <;> exact IntWalk.i64_in _ (by omega))
        · intro a' w' K hI hd hq hK
          have e72 : a'.eval (.tmp 72) = .slice (some ⟨bb, ob, none⟩) N cb := (hd 0 72 (by kernel_rfl))
          have e73 : a'.eval (.tmp 73) = .int .i64 (i : Int) := (hd 1 73 (by kernel_rfl))
          clear hd hq
          refine op_value (wanted_free _ _ (by rfl)) (v := .pointer (some ⟨bb, ob + i * 33, none⟩)) (w'' := w') ?_ (hK _ _ hI (fun _ _ h => h) rfl)
          clear hK
          simp only [execOp, e72, e73]
          have f72 : a'.tmps[72]?.getD undef = .slice (some ⟨bb, ob, none⟩) N cb := (Array.getD_eq_getD_getElem? ..).symm.trans e72
          have f73 : a'.tmps[73]?.getD undef = .int .i64 (i : Int) := (Array.getD_eq_getD_getElem? ..).symm.trans e73
          clear e72 e73
          first | rfl | (go_simp <;> exact IntWalk.i64_in _ (by omega))
        · intro a' w' K hI hd hq hK
          have e74 : a'.eval (.tmp 74) = .pointer (some ⟨bb, ob + i * 33, none⟩) := (hd 2 74 (by kernel_rfl))
          clear hd hq
          subst hI
          refine op_value (wanted_free _ _ (by rfl)) (v := .agg lc.toArray) (w'' := wr.drew) ?_ (hK _ _ rfl (fun _ _ h => h) rfl)
          simp only [execOp, e74, Instr.loadAt, Instr.sureAddr, Sem.run_bind, Sem.run_pure, Result.andThen_ok, run_loadVar_mid wr.drew bb (ob + i * 33) 30 lc _ (show wr.drew.rangeAt bb (ob + i * 33) lc from RGB.out) Try.underlying30 rfl HIL.out]
        · intro a' w' K hI hd hq hK
          have e5 : a'.eval (.tmp 5) = .slice (some ⟨ba, oa, none⟩) N ca := (hq 5 (by kernel_rfl)).trans rfl
          clear hd hq
          refine op_value (wanted_free _ _ (by rfl)) (v := .slice (some ⟨ba, oa, none⟩) N ca) (w'' := w') ?_ (hK _ _ hI (fun _ _ h => h) rfl)
          clear hK
          simp only [execOp, e5]
          have f5 : a'.tmps[5]?.getD undef = .slice (some ⟨ba, oa, none⟩) N ca := (Array.getD_eq_getD_getElem? ..).symm.trans e5
          clear e5
          first | rfl | (go_simp <;> exact IntWalk.i64_in _ (by omega))
        · intro a' w' K hI hd hq hK
          have e10 : a'.eval (.tmp 10) = .int .i64 (i : Int) := (hq 10 (by kernel_rfl)).trans rfl
          clear hd hq
          refine op_value (wanted_free _ _ (by rfl)) (v := .int .i64 (i : Int)) (w'' := w') ?_ (hK _ _ hI (fun _ _ h => h) rfl)
          clear hK
          simp only [execOp, e10]
          have f10 : a'.tmps[10]?.getD undef = .int .i64 (i : Int) := (Array.getD_eq_getD_getElem? ..).symm.trans e10
          clear e10
          first | rfl | (go_simp <;> exact IntWalk.i64_in _ (by omega))
        · intro a' w' K hI hd hq hK
          have e76 : a'.eval (.tmp 76) = .slice (some ⟨ba, oa, none⟩) N ca := (hd 4 76 (by kernel_rfl))
          have e77 : a'.eval (.tmp 77) = .int .i64 (i : Int) := (hd 5 77 (by kernel_rfl))
          clear hd hq
          refine op_value (wanted_free _ _ (by rfl)) (v := .pointer (some ⟨ba, oa + i * 33, none⟩)) (w'' := w') ?_ (hK _ _ hI (fun _ _ h => h) rfl)
          clear hK
          simp only [execOp, e76, e77]
          have f76 : a'.tmps[76]?.getD undef = .slice (some ⟨ba, oa, none⟩) N ca := (Array.getD_eq_getD_getElem? ..).symm.trans e76
          have f77 : a'.tmps[77]?.getD undef = .int .i64 (i : Int) := (Array.getD_eq_getD_getElem? ..).symm.trans e77
          clear e76 e77
          first | rfl | (go_simp <;> exact IntWalk.i64_in _ (by omega))
        · intro a' w' K hI hd hq hK
          have e78 : a'.eval (.tmp 78) = .pointer (some ⟨ba, oa + i * 33, none⟩) := (hd 6 78 (by kernel_rfl))
          clear hd hq
          subst hI
          refine op_value (wanted_free _ _ (by rfl)) (v := .agg lc.toArray) (w'' := wr.drew) ?_ (hK _ _ rfl (fun _ _ h => h) rfl)
          simp only [execOp, e78, Instr.loadAt, Instr.sureAddr, Sem.run_bind, Sem.run_pure, Result.andThen_ok, run_loadVar_mid wr.drew ba (oa + i * 33) 30 lc _ (show wr.drew.rangeAt ba (oa + i * 33) lc from RGA.out) Try.underlying30 rfl HIL.out]
        · intro a' w' K hI hd hq hK
          have e75 : a'.eval (.tmp 75) = .agg lc.toArray := (hd 3 75 (by kernel_rfl))
          have e79 : a'.eval (.tmp 79) = .agg lc.toArray := (hd 7 79 (by kernel_rfl))
          clear hd hq
          refine op_value (wanted_free _ _ (by rfl)) (v := .bool false) (w'' := w') ?_ (hK _ _ hI (fun _ _ h => h) rfl)
          simp only [execOp, e75, e79, Sem.run_bind, run_eqGuard_agg w' _ 30 _ _ _ _ (show Try.prog.eqGuardType Try.prog.depth 30 = false by kernel_rfl), run_neq_struct, HEQ.out w', Result.andThen_ok, Sem.run_pure, Bool.not_true]
        · intro a' w' K hI hd hq hK
          have e80 : a'.eval (.tmp 80) = .bool false := (hd 8 80 (by kernel_rfl))
          clear hd hq
          refine op_value (wanted_free _ _ (by rfl)) (v := .bool false) (w'' := w') ?_ (hK _ _ hI (fun _ _ h => h) rfl)
          clear hK
          simp only [execOp, e80]
          have f80 : a'.tmps[80]?.getD undef = .bool false := (Array.getD_eq_getD_getElem? ..).symm.trans e80
          clear e80
          first | rfl | (go_simp <;> exact IntWalk.i64_in _ (by omega))
        · intro a' w' K hI hd hq hK
          have hg := hd 9 81 (by kernel_rfl)
          have e5 : a'.eval (.tmp 5) = .slice (some ⟨ba, oa, none⟩) N ca := (hq 5 (by kernel_rfl)).trans rfl
          clear hd hq
          refine op_value (wanted_on _ a' 9 81 false (by rfl) (by rfl) hg) (v := .slice (some ⟨ba, oa, none⟩) N ca) (w'' := w') ?_ (hK _ _ hI (fun _ _ h => h) rfl)
          clear hK
          simp only [execOp, e5]
          have f5 : a'.tmps[5]?.getD undef = .slice (some ⟨ba, oa, none⟩) N ca := (Array.getD_eq_getD_getElem? ..).symm.trans e5
          clear e5
          first | rfl | (go_simp <;> exact IntWalk.i64_in _ (by omega))
        · intro a' w' K hI hd hq hK
          have hg := hd 9 81 (by kernel_rfl)
          have e10 : a'.eval (.tmp 10) = .int .i64 (i : Int) := (hq 10 (by kernel_rfl)).trans rfl
          clear hd hq
          refine op_value (wanted_on _ a' 9 81 false (by rfl) (by rfl) hg) (v := .int .i64 (i : Int)) (w'' := w') ?_ (hK _ _ hI (fun _ _ h => h) rfl)
          clear hK
          simp only [execOp, e10]
          have f10 : a'.tmps[10]?.getD undef = .int .i64 (i : Int) := (Array.getD_eq_getD_getElem? ..).symm.trans e10
          clear e10
          first | rfl | (go_simp <;> exact IntWalk.i64_in _ (by omega))
        · intro a' w' K hI hd hq hK
          have hg := hd 9 81 (by kernel_rfl)
          have e82 : a'.eval (.tmp 82) = .slice (some ⟨ba, oa, none⟩) N ca := (hd 10 82 (by kernel_rfl))
          have e83 : a'.eval (.tmp 83) = .int .i64 (i : Int) := (hd 11 83 (by kernel_rfl))
          clear hd hq
          refine op_value (wanted_on _ a' 9 81 false (by rfl) (by rfl) hg) (v := .pointer (some ⟨ba, oa + i * 33, none⟩)) (w'' := w') ?_ (hK _ _ hI (fun _ _ h => h) rfl)
          clear hK
          simp only [execOp, e82, e83]
          have f82 : a'.tmps[82]?.getD undef = .slice (some ⟨ba, oa, none⟩) N ca := (Array.getD_eq_getD_getElem? ..).symm.trans e82
          have f83 : a'.tmps[83]?.getD undef = .int .i64 (i : Int) := (Array.getD_eq_getD_getElem? ..).symm.trans e83
          clear e82 e83
          first | rfl | (go_simp <;> exact IntWalk.i64_in _ (by omega))
        · intro a' w' K hI hd hq hK
          have hg := hd 9 81 (by kernel_rfl)
          have e84 : a'.eval (.tmp 84) = .pointer (some ⟨ba, oa + i * 33, none⟩) := (hd 12 84 (by kernel_rfl))
          clear hd hq
          refine op_value (wanted_on _ a' 9 81 false (by rfl) (by rfl) hg) (v := .pointer (some ⟨ba, oa + i * 33, none⟩)) (w'' := w') ?_ (hK _ _ hI (fun _ _ h => h) rfl)
          clear hK
          simp only [execOp, e84]
          have f84 : a'.tmps[84]?.getD undef = .pointer (some ⟨ba, oa + i * 33, none⟩) := (Array.getD_eq_getD_getElem? ..).symm.trans e84
          clear e84
          first | rfl | (go_simp <;> exact IntWalk.i64_in _ (by omega))
        · intro a' w' K hI hd hq hK
          have hg := hd 9 81 (by kernel_rfl)
          have e85 : a'.eval (.tmp 85) = .pointer (some ⟨ba, oa + i * 33, none⟩) := (hd 13 85 (by kernel_rfl))
          clear hd hq
          have hs0 := HS0.out
          refine op_value (wanted_on _ a' 9 81 false (by rfl) (by rfl) hg) (v := .string sx) (w'' := w') ?_ (hK _ _ hI (fun _ _ h => h) rfl)
          clear hK
          simp only [execOp, e85]
          have f85 : a'.tmps[85]?.getD undef = .pointer (some ⟨ba, oa + i * 33, none⟩) := (Array.getD_eq_getD_getElem? ..).symm.trans e85
          clear e85
          first | rfl | (go_simp <;> exact IntWalk.i64_in _ (by omega))
        · intro a' w' K hI hd hq hK
          have hg := hd 9 81 (by kernel_rfl)
          have e0 : a'.eval (.tmp 0) = .slice (some ⟨b0, o0, none⟩) N c0 := (hq 0 (by kernel_rfl)).trans rfl
          clear hd hq
          refine op_value (wanted_on _ a' 9 81 false (by rfl) (by rfl) hg) (v := .slice (some ⟨b0, o0, none⟩) N c0) (w'' := w') ?_ (hK _ _ hI (fun _ _ h => h) rfl)
          clear hK
          simp only [execOp, e0]
          have f0 : a'.tmps[0]?.getD undef = .slice (some ⟨b0, o0, none⟩) N c0 := (Array.getD_eq_getD_getElem? ..).symm.trans e0
          clear e0
          first | rfl | (go_simp <;> exact IntWalk.i64_in _ (by omega))
        · intro a' w' K hI hd hq hK
          have hg := hd 9 81 (by kernel_rfl)
          have e10 : a'.eval (.tmp 10) = .int .i64 (i : Int) := (hq 10 (by kernel_rfl)).trans rfl
          clear hd hq
          refine op_value (wanted_on _ a' 9 81 false (by rfl) (by rfl) hg) (v := .int .i64 (i : Int)) (w'' := w') ?_ (hK _ _ hI (fun _ _ h => h) rfl)
          clear hK
          simp only [execOp, e10]
          have f10 : a'.tmps[10]?.getD undef = .int .i64 (i : Int) := (Array.getD_eq_getD_getElem? ..).symm.trans e10
          clear e10
          first | rfl | (go_simp <;> exact IntWalk.i64_in _ (by omega))
        · intro a' w' K hI hd hq hK
          have hg := hd 9 81 (by kernel_rfl)
          have e87 : a'.eval (.tmp 87) = .slice (some ⟨b0, o0, none⟩) N c0 := (hd 15 87 (by kernel_rfl))
          have e88 : a'.eval (.tmp 88) = .int .i64 (i : Int) := (hd 16 88 (by kernel_rfl))
          clear hd hq
          refine op_value (wanted_on _ a' 9 81 false (by rfl) (by rfl) hg) (v := .pointer (some ⟨b0, o0 + i, none⟩)) (w'' := w') ?_ (hK _ _ hI (fun _ _ h => h) rfl)
          clear hK
          simp only [execOp, e87, e88]
          have f87 : a'.tmps[87]?.getD undef = .slice (some ⟨b0, o0, none⟩) N c0 := (Array.getD_eq_getD_getElem? ..).symm.trans e87
          have f88 : a'.tmps[88]?.getD undef = .int .i64 (i : Int) := (Array.getD_eq_getD_getElem? ..).symm.trans e88
          clear e87 e88
          first | rfl | (go_simp <;> exact IntWalk.i64_in _ (by omega))
        · intro a' w' K hI hd hq hK
          have hg := hd 9 81 (by kernel_rfl)
          have e89 : a'.eval (.tmp 89) = .pointer (some ⟨b0, o0 + i, none⟩) := (hd 17 89 (by kernel_rfl))
          clear hd hq
          have hst := HST.out
          refine op_value (wanted_on _ a' 9 81 false (by rfl) (by rfl) hg) (v := .string sx) (w'' := w') ?_ (hK _ _ hI (fun _ _ h => h) rfl)
          clear hK
          simp only [execOp, e89]
          have f89 : a'.tmps[89]?.getD undef = .pointer (some ⟨b0, o0 + i, none⟩) := (Array.getD_eq_getD_getElem? ..).symm.trans e89
          clear e89
          first | rfl | (go_simp <;> exact IntWalk.i64_in _ (by omega))
        · intro a' w' K hI hd hq hK
          have hg := hd 9 81 (by kernel_rfl)
          have e86 : a'.eval (.tmp 86) = .string sx := (hd 14 86 (by kernel_rfl))
          have e90 : a'.eval (.tmp 90) = .string sx := (hd 18 90 (by kernel_rfl))
          clear hd hq
          refine op_value (wanted_on _ a' 9 81 false (by rfl) (by rfl) hg) (v := .bool false) (w'' := w') ?_ (hK _ _ hI (fun _ _ h => h) rfl)
          clear hK
          simp only [execOp, e86, e90]
          have f86 : a'.tmps[86]?.getD undef = .string sx := (Array.getD_eq_getD_getElem? ..).symm.trans e86
          have f90 : a'.tmps[90]?.getD undef = .string sx := (Array.getD_eq_getD_getElem? ..).symm.trans e90
          clear e86 e90
          first | rfl | (go_simp <;> exact IntWalk.i64_in _ (by omega))
        · intro a' w' K hI hd hq hK
          have e81 : a'.eval (.tmp 81) = .bool false := (hd 9 81 (by kernel_rfl))
          have e91 : a'.eval (.tmp 91) = .bool false := (hd 19 91 (by kernel_rfl))
          clear hd hq
          refine op_value (wanted_free _ _ (by rfl)) (v := .bool false) (w'' := w') ?_ (hK _ _ hI (fun _ _ h => h) rfl)
          clear hK
          simp only [execOp, e81, e91]
          have f81 : a'.tmps[81]?.getD undef = .bool false := (Array.getD_eq_getD_getElem? ..).symm.trans e81
          have f91 : a'.tmps[91]?.getD undef = .bool false := (Array.getD_eq_getD_getElem? ..).symm.trans e91
          clear e81 e91
          first | rfl | (go_simp <;> exact IntWalk.i64_in _ (by omega))
      case fin10 =>
        rintro w' hI _ rfl _ rfl _ rfl _ rfl _ rfl _ rfl _ rfl _ rfl _ rfl _ rfl _ rfl _ rfl _ rfl _ rfl _ rfl _ rfl _ rfl _ rfl _ rfl _ rfl _ rfl
        simp only [Act.put, List.setIfInBounds_toArray, List.set_cons_zero, List.set_cons_succ, FinGoal]
        subst hI
        go_wp2_with fail
        go_roundg (N - (i + 1))
        case measure => have := HK.out; have := HLT.out; omega
        case rel => exact ⟨i + 1, HLT.out, rfl, by go_num, HB.out.drew⟩
    · obtain rfl : i = N := by omega
      clear hlt hi
      go_wp2_with fail
      refine (known19_any _).mono ?_
      rintro e w9 ⟨rfl, hb⟩
      go_wp2_with fail
      go_ret
      exact ⟨rfl, below_below (below_below B8.out B8.out.size HB.out) (Nat.le_trans B8.out.size HB.out.size) hb⟩

end Go.Proofs.Ythlbmjjodjepjaa
