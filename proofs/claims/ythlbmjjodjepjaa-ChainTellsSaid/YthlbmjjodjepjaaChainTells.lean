/-
  The walk of the law ChainTells.
-/
import Derived.Test.YthlbmjjodjepjaaDecU
set_option linter.unusedVariables false
set_option linter.unusedSimpArgs false
namespace Go.Proofs.Ythlbmjjodjepjaa
open Go.RowKit

theorem own_none (W : World) (e : TypeId) (s : Nat) : (W.alloc (.cells #[] e)).ownsRow W.heap.size e s (.slice (some ⟨W.heap.size, 0, none⟩) 0 0) 0 [] :=
  ⟨by simp, .inr ⟨_, 0, #[], rfl, Nat.le_refl _, heap_alloc_new W _, Nat.le_refl _, by simp [maxLen], by simp, by simp⟩⟩

set_option maxRecDepth 100000 in
set_option maxHeartbeats 16000000 in
theorem chainTells_any (A : Option Addr) (n c : Nat) (L : List (List UInt8)) (at' : Int) (tu : UInt8) (B : Option Addr) (nb cb : Nat) (b : List UInt8) (w : World) (hl : L.length = n) (hn : n ≤ 9223372036854775807) (hr : RS w A L)
    (ha0 : -9223372036854775808 ≤ at') (ha1 : at' ≤ 9223372036854775807) (hbl : b.length = nb) (hbc : nb ≤ cb) (hb9 : nb ≤ 9223372036854775807) (hrb : RB w B b) :
    Calls Try.prog 12 #[.slice A n c, .int .i64 at', .int .u8 (un8 tu), .slice B nb cb] w fun e w' => e = .returned (.bool true) ∧ Below w.heap.size w w' := by
  subst hl
  subst hbl
  have HL := Lib.hid hr
  have HRB := Lib.hid hrb
  clear hr hrb
  obtain ⟨F, eF⟩ : ∃ F, F = fewOf L 6 := ⟨_, rfl⟩
  obtain ⟨N, eN⟩ : ∃ N, N = min 6 L.length := ⟨_, rfl⟩
  have hFl : F.length = N := by rw [eF, eN, fewOf_length]
  have hFs : ∀ x ∈ F, x.length ≤ 100 := fun x hx => by rw [eF] at hx; exact fewOf_small L 6 x hx
  have hN : N ≤ 6 := by omega
  have EF := Lib.hid eF
  have EN := Lib.hid eN
  have HFL := Lib.hid hFl
  have HFS := Lib.hid hFs
  have HN6 := Lib.hid hN
  clear eF eN hFl hFs hN
  go_enter Try.func12, Try.ntmps12
  go_wp2_with fail
  refine (few19_any A L.length c L 6 w rfl (by omega) HL.out).mono ?_
  rw [← EF.out, ← EN.out]
  rintro e w1 ⟨v0, rfl, ho, hb⟩
  obtain ⟨A0, c0, rfl, _⟩ := own_slice ho
  have RS1 := Lib.hid (show RS w1 A0 F from own_RC ho)
  have B1 := Lib.hid hb
  clear ho hb
  go_wp2_with fail
  refine (make_any A0 N c0 F w1 HFL.out (by have := HN6.out; omega) (fun x hx => by have := HFS.out x hx; omega) RS1.out).mono ?_
  rw [HFL.out]
  rintro e w2 ⟨v1, rfl, ho, hb⟩
  obtain ⟨A1, c1, rfl, _⟩ := own_slice ho
  have RA2 := Lib.hid (own_RC ho)
  have RS2 := Lib.hid (show RS w2 A0 F from RS1.out.below hb)
  have B2 := Lib.hid (below_below B1.out B1.out.size hb)
  clear ho hb RS1 B1
  go_wp2_with fail
  refine (refMake_any A0 N c0 F w2 HFL.out (by have := HN6.out; omega) (fun x hx => by have := HFS.out x hx; omega) RS2.out).mono ?_
  rw [HFL.out]
  rintro e w3 ⟨v2, rfl, ho, hb⟩
  obtain ⟨A2, c2, rfl, _⟩ := own_slice ho
  obtain ⟨M, eM⟩ : ∃ M, M = mkOf F := ⟨_, rfl⟩
  rw [← eM] at ho RA2
  have RR := Lib.hid (own_RC ho)
  have RA := Lib.hid (RA2.out.below hb)
  have B3 := Lib.hid (below_below B2.out B2.out.size hb)
  have HML := Lib.hid (show M.length = N by rw [eM, mkOf_length, HFL.out])
  have HMH := Lib.hid (show ∀ x ∈ M, x.2.length = 32 by rw [eM]; exact mkOf_heads F)
  have HMT := Lib.hid (show ∀ x ∈ M, x.1.length ≤ 100 by rw [eM]; exact mkOf_texts F 100 HFS.out)
  clear ho hb RA2 RS2 B2 eM
  obtain ⟨zz, ezz⟩ : ∃ zz, zz = (⟨(encOf M).toArray⟩ : ByteArray) := ⟨_, rfl⟩
  have EZZ := Lib.hid ezz
  have hN6 : (N : Int) ≤ 6 := by have := HN6.out; omega
  clear ezz
  go_upto_region 4 with fail
  refine region_by (fun W => Below w3.heap.size w3 W) [(fun v _ => v = .slice A1 N c1), (fun v _ => v = .int .i64 (N : Int)), (fun v _ => v = .slice A2 N c2), (fun v _ => v = .int .i64 (N : Int)), (fun v _ => v = .bool false), (fun v _ => v = .bool false), (fun v _ => v = .slice A1 N c1), fun v w' => ∃ A6 c6, v = .slice A6 (encOf M).length c6 ∧ RB w' A6 (encOf M), fun v _ => v = .string zz, (fun v _ => v = .slice A2 N c2), fun v w' => ∃ A6 c6, v = .slice A6 (encOf M).length c6 ∧ RB w' A6 (encOf M), fun v _ => v = .string zz, (fun v _ => v = .bool false), (fun v _ => v = .bool false)] (by kernel_rfl) (by kernel_rfl) (by kernel_rfl) rfl ((Below.refl _ _).drew) ?ok4 ?fin4
  case ok4 =>
    refine ⟨?_, ?_, ?_, ?_, ?_, ?_, ?_, ?_, ?_, ?_, ?_, ?_, ?_, ?_, trivial⟩
    · intro a' w' K hI hd hq hK
      have e9 : a'.eval (.tmp 9) = .slice A1 N c1 := (hq 9 (by kernel_rfl)).trans rfl
      clear hd hq
      refine op_value (wanted_free _ _ (by rfl)) (v := .slice A1 N c1) (w'' := w') ?_ (hK _ _ hI (fun _ _ h => h) rfl)
      clear hK
      simp only [execOp, e9]
      have f9 : a'.tmps[9]?.getD undef = .slice A1 N c1 := (Array.getD_eq_getD_getElem? ..).symm.trans e9
      clear e9
      first | rfl | (go_simp <;> exact IntWalk.i64_in _ (by omega))
    · intro a' w' K hI hd hq hK
      have e31 : a'.eval (.tmp 31) = .slice A1 N c1 := (hd 0 31 (by kernel_rfl))
      clear hd hq
      refine op_value (wanted_free _ _ (by rfl)) (v := .int .i64 (N : Int)) (w'' := w') ?_ (hK _ _ hI (fun _ _ h => h) rfl)
      clear hK
      simp only [execOp, e31]
      have f31 : a'.tmps[31]?.getD undef = .slice A1 N c1 := (Array.getD_eq_getD_getElem? ..).symm.trans e31
      clear e31
      first | rfl | (go_simp <;> exact IntWalk.i64_in _ (by omega))
    · intro a' w' K hI hd hq hK
      have e10 : a'.eval (.tmp 10) = .slice A2 N c2 := (hq 10 (by kernel_rfl)).trans rfl
      clear hd hq
      refine op_value (wanted_free _ _ (by rfl)) (v := .slice A2 N c2) (w'' := w') ?_ (hK _ _ hI (fun _ _ h => h) rfl)
      clear hK
      simp only [execOp, e10]
      have f10 : a'.tmps[10]?.getD undef = .slice A2 N c2 := (Array.getD_eq_getD_getElem? ..).symm.trans e10
      clear e10
      first | rfl | (go_simp <;> exact IntWalk.i64_in _ (by omega))
    · intro a' w' K hI hd hq hK
      have e33 : a'.eval (.tmp 33) = .slice A2 N c2 := (hd 2 33 (by kernel_rfl))
      clear hd hq
      refine op_value (wanted_free _ _ (by rfl)) (v := .int .i64 (N : Int)) (w'' := w') ?_ (hK _ _ hI (fun _ _ h => h) rfl)
      clear hK
      simp only [execOp, e33]
      have f33 : a'.tmps[33]?.getD undef = .slice A2 N c2 := (Array.getD_eq_getD_getElem? ..).symm.trans e33
      clear e33
      first | rfl | (go_simp <;> exact IntWalk.i64_in _ (by omega))
    · intro a' w' K hI hd hq hK
      have e32 : a'.eval (.tmp 32) = .int .i64 (N : Int) := (hd 1 32 (by kernel_rfl))
      have e34 : a'.eval (.tmp 34) = .int .i64 (N : Int) := (hd 3 34 (by kernel_rfl))
      clear hd hq
      refine op_value (wanted_free _ _ (by rfl)) (v := .bool false) (w'' := w') ?_ (hK _ _ hI (fun _ _ h => h) rfl)
      clear hK
      simp only [execOp, e32, e34]
      have f32 : a'.tmps[32]?.getD undef = .int .i64 (N : Int) := (Array.getD_eq_getD_getElem? ..).symm.trans e32
      have f34 : a'.tmps[34]?.getD undef = .int .i64 (N : Int) := (Array.getD_eq_getD_getElem? ..).symm.trans e34
      clear e32 e34
      first | rfl | (go_simp <;> exact IntWalk.i64_in _ (by omega))
    · intro a' w' K hI hd hq hK
      have e35 : a'.eval (.tmp 35) = .bool false := (hd 4 35 (by kernel_rfl))
      clear hd hq
      refine op_value (wanted_free _ _ (by rfl)) (v := .bool false) (w'' := w') ?_ (hK _ _ hI (fun _ _ h => h) rfl)
      clear hK
      simp only [execOp, e35]
      have f35 : a'.tmps[35]?.getD undef = .bool false := (Array.getD_eq_getD_getElem? ..).symm.trans e35
      clear e35
      first | rfl | (go_simp <;> exact IntWalk.i64_in _ (by omega))
    · intro a' w' K hI hd hq hK
      have hg := hd 5 36 (by kernel_rfl)
      have e9 : a'.eval (.tmp 9) = .slice A1 N c1 := (hq 9 (by kernel_rfl)).trans rfl
      clear hd hq
      refine op_value (wanted_on _ a' 5 36 false (by rfl) (by rfl) hg) (v := .slice A1 N c1) (w'' := w') ?_ (hK _ _ hI (fun _ _ h => h) rfl)
      clear hK
      simp only [execOp, e9]
      have f9 : a'.tmps[9]?.getD undef = .slice A1 N c1 := (Array.getD_eq_getD_getElem? ..).symm.trans e9
      clear e9
      first | rfl | (go_simp <;> exact IntWalk.i64_in _ (by omega))
    · intro a' w' K hI hd hq hK
      have hg := hd 5 36 (by kernel_rfl)
      have e37 : a'.eval (.tmp 37) = .slice A1 N c1 := (hd 6 37 (by kernel_rfl))
      clear hd hq
      refine op_call #[.slice A1 N c1] (wanted_on _ a' 5 36 false (by rfl) (by rfl) hg) rfl Try.func45 (by kernel_rfl) rfl (by simp [e37]) ?_
      refine (encode_any A1 N c1 M w' HML.out (by have := HN6.out; omega) HMH.out (fun x hx => by have := HMT.out x hx; omega) (RA.out.below hI)).mono ?_
      rintro e w6 ⟨x, rfl, ho, hb⟩
      obtain ⟨A6, c6, rfl, _⟩ := own_slice ho
      exact ⟨_, rfl, hK _ _ (below_below hI hI.size hb) (fun j u => by match j with | 7 => exact fun ⟨A6, c6, h1, h2⟩ => ⟨A6, c6, h1, h2.below hb⟩ | 10 => exact fun ⟨A6, c6, h1, h2⟩ => ⟨A6, c6, h1, h2.below hb⟩ | 0 | 1 | 2 | 3 | 4 | 5 | 6 | 8 | 9 | 11 | 12 | 13 => exact fun h => h | _ + 14 => exact fun _ => trivial) ⟨A6, c6, rfl, (own_RC ho).bytes⟩⟩
    · intro a' w' K hI hd hq hK
      have hg := hd 5 36 (by kernel_rfl)
      have e38 := hd 7 38 (by kernel_rfl)
      clear hd hq
      obtain ⟨A6, c6, e38, hr6⟩ := (show ∃ A6 c6, a'.eval (.tmp 38) = .slice A6 (encOf M).length c6 ∧ RB w' A6 (encOf M) from e38)
      refine op_value (wanted_on _ a' 5 36 false (by rfl) (by rfl) hg) (v := .string zz) (w'' := w') ?_ (hK _ _ hI (fun _ _ h => h) rfl)
      simp only [execOp, e38]
      have hst := run_string_RB (P := Try.prog) w' 37 9 5 Try.underlying37 Try.underlying5 Try.underlying9 A6 (encOf M).length c6 (encOf M) rfl hr6
      rw [← EZZ.out] at hst
      clear e38 hK hr6 hI
      go_simp
    · intro a' w' K hI hd hq hK
      have hg := hd 5 36 (by kernel_rfl)
      have e10 : a'.eval (.tmp 10) = .slice A2 N c2 := (hq 10 (by kernel_rfl)).trans rfl
      clear hd hq
      refine op_value (wanted_on _ a' 5 36 false (by rfl) (by rfl) hg) (v := .slice A2 N c2) (w'' := w') ?_ (hK _ _ hI (fun _ _ h => h) rfl)
      clear hK
      simp only [execOp, e10]
      have f10 : a'.tmps[10]?.getD undef = .slice A2 N c2 := (Array.getD_eq_getD_getElem? ..).symm.trans e10
      clear e10
      first | rfl | (go_simp <;> exact IntWalk.i64_in _ (by omega))
    · intro a' w' K hI hd hq hK
      have hg := hd 5 36 (by kernel_rfl)
      have e40 : a'.eval (.tmp 40) = .slice A2 N c2 := (hd 9 40 (by kernel_rfl))
      clear hd hq
      refine op_call #[.slice A2 N c2] (wanted_on _ a' 5 36 false (by rfl) (by rfl) hg) rfl Try.func46 (by kernel_rfl) rfl (by simp [e40]) ?_
      refine (refEncode_any A2 N c2 M w' HML.out (by have := HN6.out; omega) HMH.out (fun x hx => by have := HMT.out x hx; omega) (RR.out.below hI)).mono ?_
      rintro e w6 ⟨x, rfl, ho, hb⟩
      obtain ⟨A6, c6, rfl, _⟩ := own_slice ho
      exact ⟨_, rfl, hK _ _ (below_below hI hI.size hb) (fun j u => by match j with | 7 => exact fun ⟨A6, c6, h1, h2⟩ => ⟨A6, c6, h1, h2.below hb⟩ | 10 => exact fun ⟨A6, c6, h1, h2⟩ => ⟨A6, c6, h1, h2.below hb⟩ | 0 | 1 | 2 | 3 | 4 | 5 | 6 | 8 | 9 | 11 | 12 | 13 => exact fun h => h | _ + 14 => exact fun _ => trivial) ⟨A6, c6, rfl, (own_RC ho).bytes⟩⟩
    · intro a' w' K hI hd hq hK
      have hg := hd 5 36 (by kernel_rfl)
      have e41 := hd 10 41 (by kernel_rfl)
      clear hd hq
      obtain ⟨A6, c6, e41, hr6⟩ := (show ∃ A6 c6, a'.eval (.tmp 41) = .slice A6 (encOf M).length c6 ∧ RB w' A6 (encOf M) from e41)
      refine op_value (wanted_on _ a' 5 36 false (by rfl) (by rfl) hg) (v := .string zz) (w'' := w') ?_ (hK _ _ hI (fun _ _ h => h) rfl)
      simp only [execOp, e41]
      have hst := run_string_RB (P := Try.prog) w' 37 9 5 Try.underlying37 Try.underlying5 Try.underlying9 A6 (encOf M).length c6 (encOf M) rfl hr6
      rw [← EZZ.out] at hst
      clear e41 hK hr6 hI
      go_simp
    · intro a' w' K hI hd hq hK
      have hg := hd 5 36 (by kernel_rfl)
      have e39 : a'.eval (.tmp 39) = .string zz := (hd 8 39 (by kernel_rfl))
      have e42 : a'.eval (.tmp 42) = .string zz := (hd 11 42 (by kernel_rfl))
      clear hd hq
      refine op_value (wanted_on _ a' 5 36 false (by rfl) (by rfl) hg) (v := .bool false) (w'' := w') ?_ (hK _ _ hI (fun _ _ h => h) rfl)
      clear hK
      simp only [execOp, e39, e42]
      have f39 : a'.tmps[39]?.getD undef = .string zz := (Array.getD_eq_getD_getElem? ..).symm.trans e39
      have f42 : a'.tmps[42]?.getD undef = .string zz := (Array.getD_eq_getD_getElem? ..).symm.trans e42
      clear e39 e42
      first | rfl | (go_simp <;> exact IntWalk.i64_in _ (by omega))
    · intro a' w' K hI hd hq hK
      have e36 : a'.eval (.tmp 36) = .bool false := (hd 5 36 (by kernel_rfl))
      have e43 : a'.eval (.tmp 43) = .bool false := (hd 12 43 (by kernel_rfl))
      clear hd hq
      refine op_value (wanted_free _ _ (by rfl)) (v := .bool false) (w'' := w') ?_ (hK _ _ hI (fun _ _ h => h) rfl)
      clear hK
      simp only [execOp, e36, e43]
      have f36 : a'.tmps[36]?.getD undef = .bool false := (Array.getD_eq_getD_getElem? ..).symm.trans e36
      have f43 : a'.tmps[43]?.getD undef = .bool false := (Array.getD_eq_getD_getElem? ..).symm.trans e43
      clear e36 e43
      first | rfl | (go_simp <;> exact IntWalk.i64_in _ (by omega))
  case fin4 =>
    rintro w' hI _ rfl _ rfl _ rfl _ rfl _ rfl _ rfl _ rfl _ ⟨A6, c6, rfl, _⟩ _ rfl _ rfl _ ⟨A6, c6, rfl, _⟩ _ rfl _ rfl _ rfl
    simp only [Act.put, List.setIfInBounds_toArray, List.set_cons_zero, List.set_cons_succ, FinGoal]
    have HB4 := Lib.hid (below_below B3.out B3.out.size hI)
    have RA4 := Lib.hid (RA.out.below hI)
    have RR4 := Lib.hid (RR.out.below hI)
    have RB4 := Lib.hid (HRB.out.below HB4.out)
    clear hI RA RR B3 HRB
    go_wp2_with (at_builtin; refine append_any rfl (.tmp 45) (.tmp 46) 26 rfl w'.heap.size 30 (.agg (lk ([], hd0)).toArray) 33 48 Try.underlying26 infoLk (by kernel_rfl) (by omega) (by omega) (.slice (some ⟨w'.heap.size, 0, none⟩) 0 0) 0 [] rfl (own_none w' _ _) A1 N c1 (lv M) rfl (by rw [lv_length M HMH.out, HML.out]) (RA4.out.below ((Below.refl _ _).alloc (Nat.le_refl _) _)) (lv_one _) (by have := HN6.out; omega) (by simp) ?_)
    intro v5 w5 ho5 hg5 hat5
    obtain ⟨A5, c5, rfl, _⟩ := own_slice ho5
    have HB5 := Lib.hid (below_upd (F := fun k => k = w'.heap.size) ((Below.refl w'.heap.size w').alloc (Nat.le_refl _) (.cells #[] 30)) (by simp) ((Upd.refl (fun k => k = w'.heap.size) (w'.alloc (.cells #[] 30))).grown hg5 (fun k hk _ => (Option.some.inj (show some w'.heap.size = some k from hk)).symm)) (fun k hk => by rw [hk]; exact Nat.le_refl _))
    have HO5 := Lib.hid (show w5.ownsRow w'.heap.size 30 33 (.slice A5 N c5) N (lv M) by simpa using ho5)
    clear ho5 hg5 hat5
    go_upto_if 50 with fail
    go_cut [11] (fun s11 wx => ∃ (M2 : Lks) (A6 : Option Addr) (c6 : Nat), s11 = .slice A6 N c6 ∧ M2.length = N ∧ (∀ x ∈ M2, x.2.length = 32) ∧ (∀ x ∈ M2, x.1.length ≤ 100) ∧ RC wx A6 (lv M2) ∧ Below w'.heap.size w' wx)
    case first =>
      by_cases hN0 : N = 0
      · have hn0 : ¬ ((0 : Int) < (N : Int)) := by omega
        clear hN0
        go_wp2_with fail
        go_meet
        exact ⟨M, _, _, rfl, HML.out, HMH.out, HMT.out, own_RC HO5.out, HB5.out⟩
      · have hn0 : (0 : Int) < (N : Int) := by omega
        have hw1 : IntKind.i64.wrap ((N : Int) - 1) = (N : Int) - 1 := by rw [IntKind.wrap_i64]; omega
        go_wp2_with fail
        refine (within_any at' 0 ((N : Int) - 1) _ (by omega) (by omega) (by omega) (by omega)).mono ?_
        obtain ⟨k, hk⟩ := Int.eq_ofNat_of_zero_le (withinOf_range at' 0 ((N : Int) - 1) (by omega)).1
        have hk2 := (withinOf_range at' 0 ((N : Int) - 1) (by omega)).2
        rw [hk] at hk2 ⊢
        rintro e w6 ⟨rfl, rfl⟩
        obtain ⟨j, hj⟩ := Int.eq_ofNat_of_zero_le (withinOf_range (at'.tdiv 7) 0 31 (by omega)).1
        have hj2 := (withinOf_range (at'.tdiv 7) 0 31 (by omega)).2
        rw [hj] at hj2
        have HJ := Lib.hid hj
        have haw : IntKind.i64.wrap (at'.tdiv 7) = at'.tdiv 7 := by
          have h1 := Int.mul_tdiv_add_tmod at' 7
          have h2 := tmod_range at' 7 (by omega)
          rw [IntKind.wrap_i64]
          omega
        obtain ⟨gc, c7, hfe, hgb, _⟩ := own_form HO5.out (by omega)
        cases hfe
        have HGB := Lib.hid hgb
        have hkN : k < N := by omega
        have hj32 : j < 32 := by omega
        obtain ⟨y0, hy0⟩ : ∃ y0 : UInt8, (lv M)[k * 33 + 1 + j]? = some (.int .u8 (un8 y0)) := by
          have h1 := lv_get M HMH.out k (by rw [HML.out]; exact hkN) (1 + j) (by omega)
          rw [show k * 33 + (1 + j) = k * 33 + 1 + j by omega] at h1
          have h2 : (M[k]'(by rw [HML.out]; exact hkN)).2.length = 32 := HMH.out _ (List.getElem_mem _)
          refine ⟨(M[k]'(by rw [HML.out]; exact hkN)).2[j]'(by omega), h1.trans ?_⟩
          rw [Nat.add_comm 1 j]
          exact bv_get _ j (by omega)
        have cz : w5.cell? ⟨gc, k * 33 + 1 + j, none⟩ = some (.int .u8 (un8 y0)) := by rw [World.ownsRow.cellAt HO5.out (k * 33 + 1 + j) (by omega)]; exact hy0
        have fz := World.ownsRow.frozenAt HO5.out (k * 33 + 1 + j)
        have hxor : bits .xor .u8 (un8 y0) (un8 tu) = un8 (y0 ^^^ tu) := xor8 y0 tu
        obtain ⟨y1, hy1⟩ : ∃ y1, y1 = y0 ^^^ tu := ⟨_, rfl⟩
        rw [← hy1] at hxor
        obtain ⟨M2, hset, hM2l, hM2h, hM2t⟩ := lv_set M HMH.out k j (by rw [HML.out]; exact hkN) hj32 y1
        have HFIN := Lib.hid (show ∀ W, W = w5.setCell ⟨gc, k * 33 + 1 + j, none⟩ (.int .u8 (un8 y1)) → RC W (some ⟨gc, 0, none⟩) (lv M2) ∧ Below w'.heap.size w' W from by
          rintro W rfl
          exact ⟨by rw [← hset]; exact own_RC (World.ownsRow.stored HO5.out _ _).1, HB5.out.setCell hgb _⟩)
        have HM2L := Lib.hid (hM2l.trans HML.out)
        have HM2H := Lib.hid hM2h
        have HM2T := Lib.hid (hM2t 100 HMT.out)
        have k0 : (0 : Int) ≤ (k : Int) := by omega
        have k1 : (k : Int) < (N : Int) := by omega
        have j0 : (0 : Int) ≤ (j : Int) := by omega
        have j1 : (j : Int) < 32 := by omega
        have HHK := Lib.hid hk
        clear hk hk2 hj hj2 hy0 hy1 hset hM2l hM2h hM2t hN0 hkN hj32
        go_upto_region 9 with fail
        go_region_law (refine op_call #[.int .i64 (at'.tdiv 7), .int .i64 0, .int .i64 31] (by simp [Region.wanted]) rfl Try.func17 (by kernel_rfl) rfl (by simp [Act.eval, Act.put, haw]) ?_; refine (within_any (at'.tdiv 7) 0 31 w5.drew (by omega) (by omega) (by omega) (by omega)).mono ?_; rw [HJ.out]; rintro e w6 ⟨rfl, rfl⟩; refine ⟨_, rfl, ?_⟩)
        all_goals
          go_wp2_with fail
          go_meet
          obtain ⟨h1, h2⟩ := HFIN.out _ rfl
          exact ⟨M2, _, _, rfl, HM2L.out, HM2H.out, HM2T.out, h1.below ((Below.refl _ _).drew), h2.drew⟩
    case rest =>
      obtain ⟨M2, A6, c6, rfl, hm2l, hm2h, hm2t, hrc, hb6⟩ := hcut
      have HM2L := Lib.hid hm2l
      have HM2H := Lib.hid hm2h
      have HM2T := Lib.hid hm2t
      have RC6 := Lib.hid hrc
      have RA6 := Lib.hid (RA4.out.below hb6)
      have RR6 := Lib.hid (RR4.out.below hb6)
      have RB6 := Lib.hid (RB4.out.below hb6)
      have HB6 := Lib.hid (below_below HB4.out HB4.out.size hb6)
      clear hm2l hm2h hm2t hrc hb6 RA4 RR4 RB4 HB4 HO5 HB5
      obtain ⟨wq, hwq⟩ : ∃ wq, wq = wc := ⟨_, rfl⟩
      rw [← hwq] at RC6 RA6 RR6 RB6 HB6 ⊢
      clear hwq
      go_wp2_with fail
      refine (refEncode_any A2 N c2 M wq HML.out (by have := HN6.out; omega) HMH.out (fun x hx => by have := HMT.out x hx; omega) RR6.out).mono ?_
      rintro e w7 ⟨v7, rfl, ho, hb⟩
      have hxl : 4 ≤ (encOf M).length ∧ (encOf M).length ≤ 30000 := by
        have h1 := encL_bound M HMH.out (fun x hx => by have := HMT.out x hx; omega)
        have h2 := HML.out
        have h3 := HN6.out
        have h4 : (encOf M).length = 4 + (encL M).length := by unfold encOf; rw [List.length_append, be4n_length]
        omega
      obtain ⟨X, eX⟩ : ∃ X, X = encOf M := ⟨_, rfl⟩
      rw [← eX] at ho hxl
      obtain ⟨gx, cx, rfl, hgx, hcx⟩ := own_form ho (by omega)
      have HO7 := Lib.hid ho
      have HB7 := Lib.hid hb
      have HGX := Lib.hid hgx
      clear ho hb eX hgx
      have hx1 := hxl.1
      have hx2 := hxl.2
      have HXL := Lib.hid hxl
      have hw2 : IntKind.i64.wrap ((X.length : Int) - 1) = (X.length : Int) - 1 := by rw [IntKind.wrap_i64]; omega
      clear hxl
      go_wp2_with fail
      refine (within_any at' 0 ((X.length : Int) - 1) _ (by omega) (by omega) (by omega) (by omega)).mono ?_
      obtain ⟨k, hk⟩ := Int.eq_ofNat_of_zero_le (withinOf_range at' 0 ((X.length : Int) - 1) (by omega)).1
      have hk2 := (withinOf_range at' 0 ((X.length : Int) - 1) (by omega)).2
      rw [hk] at hk2 ⊢
      rintro e w8 ⟨rfl, rfl⟩
      have hkX : k < X.length := by omega
      have cz := own_byte HO7.out k hkX
      have fz := World.ownsRow.frozenAt HO7.out k
      obtain ⟨y0, hy0⟩ : ∃ y0, y0 = X[k] := ⟨_, rfl⟩
      rw [← hy0] at cz
      have hxor : bits .xor .u8 (un8 y0) (un8 tu) = un8 (y0 ^^^ tu) := xor8 y0 tu
      obtain ⟨y1, hy1⟩ : ∃ y1, y1 = y0 ^^^ tu := ⟨_, rfl⟩
      rw [← hy1] at hxor
      have HFIN := Lib.hid (show ∀ W, W = w7.setCell ⟨gx, k, none⟩ (.int .u8 (un8 y1)) → RB W (some ⟨gx, 0, none⟩) (X.set k y1) ∧ Below wq.heap.size wq W from by
        rintro W rfl
        have h1 := own_RC (World.ownsRow.stored HO7.out k (.int .u8 (un8 y1))).1
        have e1 : (bv X).set k (.int .u8 (un8 y1)) = bv (X.set k y1) := bv_set' X k y1
        rw [e1] at h1
        exact ⟨h1.bytes, HB7.out.setCell HGX.out _⟩)
      have k0 : (0 : Int) ≤ (k : Int) := by omega
      have k1 : (k : Int) < (X.length : Int) := by omega
      have k3 : (k : Int) ≤ (cx : Int) := by omega
      have HKX := Lib.hid hkX
      have HCX := Lib.hid hcx
      clear hk hk2 hy0 hy1 hkX hcx
      go_upto_if 88 with fail
      go_cut [13] (fun s13 wx => ∃ (Ax : Option Addr) (cy : Nat) (Y : List UInt8), s13 = .slice Ax Y.length cy ∧ Y.length ≤ 30000 ∧ Y.length ≤ cy ∧ RB wx Ax Y ∧ Below wq.heap.size wq wx)
      case first =>
        obtain ⟨h1, h2⟩ := HFIN.out _ rfl
        have H1 := Lib.hid h1
        have H2 := Lib.hid h2
        have hsl : (X.set k y1).length = X.length := List.length_set ..
        have hst : ((X.set k y1).take k).length = k := by rw [List.length_take, hsl]; have := HKX.out; omega
        have HSL := Lib.hid hsl
        have HST := Lib.hid hst
        clear h1 h2 hsl hst cz fz
        go_wp2_with fail
        all_goals
          go_meet
          first
            | exact ⟨some ⟨gx, 0, none⟩, cx, X.set k y1, congrArg (fun z => Value.slice (some ⟨gx, 0, none⟩) z cx) HSL.out.symm, by rw [HSL.out]; exact hx2, by rw [HSL.out]; exact HCX.out, H1.out, H2.out⟩
            | exact ⟨some ⟨gx, 0, none⟩, cx, (X.set k y1).take k, congrArg (fun z => Value.slice (some ⟨gx, 0, none⟩) z cx) HST.out.symm, by rw [HST.out]; omega, by rw [HST.out]; omega, RB_take H1.out k, H2.out⟩
      case rest =>
        obtain ⟨Ax, cy, Y, rfl, hY1, hY2, hry, hb8⟩ := hcut
        have HY1 := Lib.hid hY1
        have HY2 := Lib.hid hY2
        have RY8 := Lib.hid hry
        have RC8 := Lib.hid (RC6.out.below hb8)
        have RA8 := Lib.hid (RA6.out.below hb8)
        have RR8 := Lib.hid (RR6.out.below hb8)
        have RB8 := Lib.hid (RB6.out.below hb8)
        have HB8 := Lib.hid (below_below HB6.out HB6.out.size hb8)
        clear hY1 hY2 hry hb8 RC6 RA6 RR6 RB6 HB6 HO7 HB7 HFIN cz fz k0 k1 k3 hxor
        obtain ⟨w8, hw8⟩ : ∃ w8, w8 = wc := ⟨_, rfl⟩
        rw [← hw8] at RY8 RC8 RA8 RR8 RB8 HB8 ⊢
        clear hw8
        obtain ⟨KC, eKC⟩ : ∃ KC : Int, KC = (checkOf M2 : Int) := ⟨_, rfl⟩
        have EKC := Lib.hid eKC
        clear eKC
        obtain ⟨pb, epb⟩ : ∃ pb, pb = decide (M.take (min N N) = M2.take (min N N)) := ⟨_, rfl⟩
        have EPB := Lib.hid epb
        clear epb
        go_wp2_with fail
        refine (check_any A6 N c6 M2 w8 HM2L.out (by have := HN6.out; omega) (fun x hx => by have := HM2T.out x hx; omega) HM2H.out RC8.out).mono ?_
        rw [← EKC.out]
        rintro e w9 ⟨rfl, hb9⟩
        have BA := Lib.hid hb9
        clear hb9
        go_wp2_with fail
        refine (out_any A6 N c6 M2 w9 HM2L.out (by have := HN6.out; omega) HM2H.out (RC8.out.below BA.out)).mono ?_
        rw [HM2L.out]
        rintro e w10 ⟨vo, rfl, ho, hb10⟩
        obtain ⟨Ao, co, rfl, _⟩ := own_slice ho
        have RO := Lib.hid (own_RC ho)
        have BB := Lib.hid (below_below BA.out BA.out.size hb10)
        clear ho hb10 BA
        go_wp2_with fail
        refine (refCheck_any Ao N co M2 w10 HM2L.out (by have := HN6.out; omega) (fun x hx => by have := HM2T.out x hx; omega) HM2H.out RO.out).mono ?_
        rw [← EKC.out]
        rintro e w11 ⟨rfl, hb11⟩
        have BC := Lib.hid (below_below BB.out BB.out.size hb11)
        clear hb11 BB RO
        go_wp2_with fail
        refine (prefix_any A1 A6 N c1 N c6 M M2 w11 HML.out HM2L.out (by have := HN6.out; omega) (by have := HN6.out; omega) HMH.out HM2H.out (fun x hx => by have := HMT.out x hx; omega) (fun x hx => by have := HM2T.out x hx; omega) (RA8.out.below BC.out) (RC8.out.below BC.out)).mono ?_
        rw [← EPB.out]
        rintro e w12 ⟨rfl, hb12⟩
        have BD := Lib.hid (below_below BC.out BC.out.size hb12)
        clear hb12 BC
        go_wp2_with fail
        refine (out_any A6 N c6 M2 w12 HM2L.out (by have := HN6.out; omega) HM2H.out (RC8.out.below BD.out)).mono ?_
        rw [HM2L.out]
        rintro e w13 ⟨vo2, rfl, ho, hb13⟩
        obtain ⟨Ao2, co2, rfl, _⟩ := own_slice ho
        have RO2 := Lib.hid (own_RC ho)
        have BE := Lib.hid (below_below BD.out BD.out.size hb13)
        clear ho hb13 BD
        go_wp2_with fail
        refine (refPrefix_any A2 Ao2 N c2 N co2 M M2 w13 HML.out HM2L.out (by have := HN6.out; omega) (by have := HN6.out; omega) HMH.out HM2H.out (fun x hx => by have := HMT.out x hx; omega) (fun x hx => by have := HM2T.out x hx; omega) (RR8.out.below BE.out) RO2.out).mono ?_
        rw [← EPB.out]
        rintro e w14 ⟨rfl, hb14⟩
        have BF := Lib.hid (below_below BE.out BE.out.size hb14)
        have RYF := Lib.hid (RY8.out.below BF.out)
        have RBF := Lib.hid (RB8.out.below BF.out)
        have HBF := Lib.hid (below_below HB8.out HB8.out.size BF.out)
        clear hb14 BE RO2 RC8 RA8 RR8 RY8 RB8 HB8
        go_upto_if 110 with fail
        go_cut [3] (fun s3 wx => ∃ (b2 : List UInt8), s3 = .slice B b2.length cb ∧ b2.length ≤ 600 ∧ b2.length ≤ cb ∧ RB wx B b2 ∧ wx = w14)
        case first =>
          by_cases h6 : b.length ≤ 600
          · have h6' : ¬ ((600 : Int) < (b.length : Int)) := by omega
            go_wp2_with fail
            go_meet
            exact ⟨b, rfl, h6, hbc, RBF.out, rfl⟩
          · have h6' : (600 : Int) < (b.length : Int) := by omega
            have h7 : (600 : Int) ≤ (cb : Int) := by omega
            have hbt : (b.take 600).length = 600 := by rw [List.length_take]; omega
            have HBT := Lib.hid hbt
            clear hbt
            go_wp2_with fail
            go_meet
            exact ⟨b.take 600, by rw [HBT.out], by rw [HBT.out]; exact Nat.le_refl _, by rw [HBT.out]; omega, RB_take RBF.out 600, rfl⟩
        case rest =>
          obtain ⟨b2, rfl, hb2l, hb2c, hrb2, hwx⟩ := hcut
          have hwx2 := hwx.symm
          clear hwx
          subst hwx2
          have HB2L := Lib.hid hb2l
          have HB2C := Lib.hid hb2c
          have RB2 := Lib.hid hrb2
          clear hb2l hb2c hrb2 RBF
          go_upto_block 0 with fail
          obtain ⟨w15, hw15⟩ : ∃ w15, w15 = w14.alloc (.cells #[.slice Ax Y.length cy, .slice B b2.length cb] 37) := ⟨_, rfl⟩
          rw [← hw15]
          have hal : Below w14.heap.size w14 w15 := by rw [hw15]; exact (Below.refl _ _).alloc (Nat.le_refl _) _
          have hy15 : w15.heap[w14.heap.size]? = some (.cells #[.slice Ax Y.length cy, .slice B b2.length cb] 37 (0, 0)) := by rw [hw15]; exact heap_alloc_new w14 _
          have HE := Lib.hid (show ∀ i : Nat, i < 2 → ∃ (Ay : Option Addr) (Z : List UInt8) (cz : Nat), w15.cell? ⟨w14.heap.size, i, none⟩ = some (.slice Ay Z.length cz) ∧ Z.length ≤ 30000 ∧ Z.length ≤ cz ∧ RB w15 Ay Z from by
            intro i hi
            match i, hi with
            | 0, _ => exact ⟨Ax, Y, cy, (cell_of_row w15 _ 0 _ _ _ hy15).trans rfl, HY1.out, HY2.out, RYF.out.below hal⟩
            | 1, _ => exact ⟨B, b2, cb, (cell_of_row w15 _ 1 _ _ _ hy15).trans rfl, by have := HB2L.out; omega, HB2C.out, RB2.out.below hal⟩)
          have HB15 := Lib.hid (below_below HBF.out HBF.out.size hal)
          clear hw15 hal hy15 RYF RB2 HBF
          generalize w14.heap.size = gy at *
          go_wp2_with fail
          go_loopg [117] 2 (fun gk s117 wr => ∃ i : Nat, i ≤ 2 ∧ gk = 2 - i ∧ s117 = .int .i64 (i : Int) ∧ Below w15.heap.size w15 wr)
          case atStart => exact ⟨0, Nat.zero_le _, by omega, rfl, Below.refl _ _⟩
          case round =>
            obtain ⟨i, hi, hgk, rfl, hbr⟩ := hrel
            have HGK := Lib.hid hgk
            have HBR := Lib.hid hbr
            clear hgk hbr
            by_cases hlt : i < 2
            · obtain ⟨Ay, Z, cz, hcz, hz1, hz2, hrz⟩ := HE.out i hlt
              have kz := cell_below HBR.out hcz
              have RZ := Lib.hid (hrz.below HBR.out)
              have HZ1 := Lib.hid hz1
              have HZ2 := Lib.hid hz2
              have HLT := Lib.hid hlt
              have i0 : (0 : Int) ≤ (i : Int) := by omega
              have i1 : (i : Int) < 2 := by omega
              clear hcz hz1 hz2 hrz hlt
              go_wp2_with fail
              refine (roomy165t Ay Z.length cz Z wr rfl (by have := HZ1.out; omega) RZ.out).mono ?_
              rintro e w16 ⟨rfl, ha, hb⟩
              have RFU := Lib.hid (show RB w16 (some ⟨wr.heap.size, 0, none⟩) (Z ++ List.replicate 80 165) by
                intro _
                exact ⟨_, rfl, fun j hj => by rw [add_plain]; exact ha.byte hj⟩)
              have RZ16 := Lib.hid (RZ.out.below hb)
              have HB16 := Lib.hid (below_below HBR.out HBR.out.size hb)
              clear ha hb kz RZ
              generalize wr.heap.size = gf at *
              have z81 : (Z.length : Int) ≤ (Z.length : Int) + 80 := by omega
              obtain ⟨M3, why, en, hres⟩ : ∃ M3 why en, resS Z = (M3, why, en) := ⟨_, _, _, rfl⟩
              have HRES := Lib.hid hres
              clear hres
              go_wp2_with fail
              refine (decode_u (some ⟨gf, 0, none⟩) Z.length (Z.length + 80) Z w16 rfl (by have := HZ1.out; omega) (by have h := RB_take RFU.out Z.length; simpa using h) (fun h => by cases h)).mono ?_
              rw [HRES.out]
              dsimp only
              rintro e w17 ⟨Ap, cp, rfl, hrp, hM3, hm3l, hb⟩
              have RP := Lib.hid hrp
              have HM3 := Lib.hid hM3
              have hm3 : M3.length ≤ 4096 := hm3l
              have B17 := Lib.hid hb
              clear hrp hM3 hm3l hb
              go_wp2_with fail
              refine (refDecode_u Ay Z.length cz Z w17 rfl (by have := HZ1.out; omega) HZ2.out (RZ16.out.below B17.out)).mono ?_
              rw [HRES.out]
              dsimp only
              rintro e w18 ⟨Aq, cq, rfl, hrq, hb⟩
              have RQ := Lib.hid hrq
              have RP18 := Lib.hid (RP.out.below hb)
              have B18 := Lib.hid (below_below B17.out B17.out.size hb)
              clear hrq hb B17 RP
              go_wp2_with fail
              refine (intact165t (some ⟨gf, 0, none⟩) Ay Z.length (Z.length + 80) cz Z w18 rfl (by have := HZ1.out; omega) (by omega) (RFU.out.below B18.out) (RZ16.out.below B18.out)).mono ?_
              rintro e w19 ⟨rfl, hb⟩
              have RQ19 := Lib.hid (RQ.out.below hb)
              have RP19 := Lib.hid (RP18.out.below hb)
              have B19 := Lib.hid (below_below HB16.out HB16.out.size (below_below B18.out B18.out.size hb))
              clear hb RQ RP18 B18 RFU RZ16 HB16
              obtain ⟨m, em⟩ : ∃ m, m = M3.length := ⟨_, rfl⟩
              rw [← em] at hm3 ⊢
              have EM := Lib.hid em
              clear em
              go_wp2_with fail
              go_loopg [24] m (fun gk2 s24 wr => ∃ j : Nat, j ≤ m ∧ gk2 = m - j ∧ s24 = .int .i64 (j : Int) ∧ Below w19.heap.size w19 wr)
              case atStart => exact ⟨0, Nat.zero_le _, by omega, rfl, Below.refl _ _⟩
              case round =>
                obtain ⟨j, hj, hgk2, rfl, hbr2⟩ := hrel
                have HGK2 := Lib.hid hgk2
                have HBR2 := Lib.hid hbr2
                clear hgk2 hbr2
                by_cases hjm : j < m
                · have hhh : ∀ x ∈ M3, x.2.length = 32 := fun x hx => (HM3.out x hx).1
                  obtain ⟨bp, op, rfl, e1⟩ := RP19.out.parts (by rw [lv_length _ hhh, ← EM.out]; omega)
                  obtain ⟨bq, oq, rfl, e2⟩ := RQ19.out.parts (by rw [lv_length _ hhh, ← EM.out]; omega)
                  have hjM : j < M3.length := by rw [← EM.out]; exact hjm
                  have hR1 := lk_range hhh e1 j hjM
                  have hR2 := lk_range hhh e2 j hjM
                  have hgl : (M3[j]).2.length = 32 := hhh _ (List.getElem_mem hjM)
                  generalize M3[j] = xg at *
                  obtain ⟨x, g⟩ := xg
                  simp only at hgl
                  have HRP := Lib.hid (show wr.drew.rangeAt bp (op + j * 33 + 1) (bv g) from fun k v hk => by
                    have := cell_below HBR2.out.drew (hR1 (k + 1) v (by simpa [lk] using hk))
                    rwa [show op + j * 33 + (k + 1) = op + j * 33 + 1 + k by omega] at this)
                  have HRQ := Lib.hid (show wr.drew.rangeAt bq (oq + j * 33 + 1) (bv g) from fun k v hk => by
                    have := cell_below HBR2.out.drew (hR2 (k + 1) v (by simpa [lk] using hk))
                    rwa [show oq + j * 33 + (k + 1) = oq + j * 33 + 1 + k by omega] at this)
                  obtain ⟨sx, esx⟩ : ∃ sx, sx = strB x := ⟨_, rfl⟩
                  have HSP := Lib.hid (show wr.cell? ⟨bp, op + j * 33, none⟩ = some (.string sx) by rw [esx]; exact cell_below HBR2.out (hR1 0 _ rfl))
                  have HSQ := Lib.hid (show wr.cell? ⟨bq, oq + j * 33, none⟩ = some (.string sx) by rw [esx]; exact cell_below HBR2.out (hR2 0 _ rfl))
                  obtain ⟨gc, egc⟩ : ∃ gc, gc = (bv g).toArray := ⟨_, rfl⟩
                  have EGC := Lib.hid egc
                  have HGLN := Lib.hid hgl
                  have HEQ := Lib.hid (show ∀ W, (Op.equalIn 10000 28 (.agg gc) (.agg gc)).run Try.prog W = .ok true W by
                    intro W
                    rw [egc, eq32 g g hgl hgl, decide_eq_true rfl])
                  have HJM := Lib.hid hjm
                  have j0 : (0 : Int) ≤ (j : Int) := by omega
                  have j1 : (j : Int) < (m : Int) := by omega
                  clear e1 e2 hjM hR1 hR2 hgl egc esx hjm hj hhh
                  go_upto_region 30 with fail
                  refine region_by (fun W => W = wr.drew) [(fun v _ => v = .slice (some ⟨bp, op, none⟩) m cp), (fun v _ => v = .int .i64 (j : Int)), (fun v _ => v = .pointer (some ⟨bp, op + j * 33, none⟩)), (fun v _ => v = .pointer (some ⟨bp, op + j * 33, none⟩)), (fun v _ => v = .string sx), (fun v _ => v = .slice (some ⟨bq, oq, none⟩) m cq), (fun v _ => v = .int .i64 (j : Int)), (fun v _ => v = .pointer (some ⟨bq, oq + j * 33, none⟩)), (fun v _ => v = .pointer (some ⟨bq, oq + j * 33, none⟩)), (fun v _ => v = .string sx), (fun v _ => v = .bool false), (fun v _ => v = .bool false), (fun v _ => v = .slice (some ⟨bp, op, none⟩) m cp), (fun v _ => v = .int .i64 (j : Int)), (fun v _ => v = .pointer (some ⟨bp, op + j * 33, none⟩)), (fun v _ => v = .pointer (some ⟨bp, op + j * 33 + 1, none⟩)), fun v _ => v = .agg gc, (fun v _ => v = .slice (some ⟨bq, oq, none⟩) m cq), (fun v _ => v = .int .i64 (j : Int)), (fun v _ => v = .pointer (some ⟨bq, oq + j * 33, none⟩)), (fun v _ => v = .pointer (some ⟨bq, oq + j * 33 + 1, none⟩)), fun v _ => v = .agg gc, fun v _ => v = .bool false, (fun v _ => v = .bool false)] (by kernel_rfl) (by kernel_rfl) (by kernel_rfl) rfl (rfl) ?ok30 ?fin30
                  case ok30 =>
                    refine ⟨?_, ?_, ?_, ?_, ?_, ?_, ?_, ?_, ?_, ?_, ?_, ?_, ?_, ?_, ?_, ?_, ?_, ?_, ?_, ?_, ?_, ?_, ?_, ?_, trivial⟩
                    · intro a' w' K hI hd hq hK
                      have e18 : a'.eval (.tmp 18) = .slice (some ⟨bp, op, none⟩) m cp := (hq 18 (by kernel_rfl)).trans rfl
                      clear hd hq
                      refine op_value (wanted_free _ _ (by rfl)) (v := .slice (some ⟨bp, op, none⟩) m cp) (w'' := w') ?_ (hK _ _ hI (fun _ _ h => h) rfl)
                      clear hK
                      simp only [execOp, e18]
                      have f18 : a'.tmps[18]?.getD undef = .slice (some ⟨bp, op, none⟩) m cp := (Array.getD_eq_getD_getElem? ..).symm.trans e18
                      clear e18
                      first | rfl | (go_simp <;> exact IntWalk.i64_in _ (by omega))
                    · intro a' w' K hI hd hq hK
                      have e24 : a'.eval (.tmp 24) = .int .i64 (j : Int) := (hq 24 (by kernel_rfl)).trans rfl
                      clear hd hq
                      refine op_value (wanted_free _ _ (by rfl)) (v := .int .i64 (j : Int)) (w'' := w') ?_ (hK _ _ hI (fun _ _ h => h) rfl)
                      clear hK
                      simp only [execOp, e24]
                      have f24 : a'.tmps[24]?.getD undef = .int .i64 (j : Int) := (Array.getD_eq_getD_getElem? ..).symm.trans e24
                      clear e24
                      first | rfl | (go_simp <;> exact IntWalk.i64_in _ (by omega))
                    · intro a' w' K hI hd hq hK
                      have e165 : a'.eval (.tmp 165) = .slice (some ⟨bp, op, none⟩) m cp := (hd 0 165 (by kernel_rfl))
                      have e166 : a'.eval (.tmp 166) = .int .i64 (j : Int) := (hd 1 166 (by kernel_rfl))
                      clear hd hq
                      refine op_value (wanted_free _ _ (by rfl)) (v := .pointer (some ⟨bp, op + j * 33, none⟩)) (w'' := w') ?_ (hK _ _ hI (fun _ _ h => h) rfl)
                      clear hK
                      simp only [execOp, e165, e166]
                      have f165 : a'.tmps[165]?.getD undef = .slice (some ⟨bp, op, none⟩) m cp := (Array.getD_eq_getD_getElem? ..).symm.trans e165
                      have f166 : a'.tmps[166]?.getD undef = .int .i64 (j : Int) := (Array.getD_eq_getD_getElem? ..).symm.trans e166
                      clear e165 e166
                      first | rfl | (go_simp <;> exact IntWalk.i64_in _ (by omega))
                    · intro a' w' K hI hd hq hK
                      have e167 : a'.eval (.tmp 167) = .pointer (some ⟨bp, op + j * 33, none⟩) := (hd 2 167 (by kernel_rfl))
                      clear hd hq
                      refine op_value (wanted_free _ _ (by rfl)) (v := .pointer (some ⟨bp, op + j * 33, none⟩)) (w'' := w') ?_ (hK _ _ hI (fun _ _ h => h) rfl)
                      clear hK
                      simp only [execOp, e167]
                      have f167 : a'.tmps[167]?.getD undef = .pointer (some ⟨bp, op + j * 33, none⟩) := (Array.getD_eq_getD_getElem? ..).symm.trans e167
                      clear e167
                      first | rfl | (go_simp <;> exact IntWalk.i64_in _ (by omega))
                    · intro a' w' K hI hd hq hK
                      have e168 : a'.eval (.tmp 168) = .pointer (some ⟨bp, op + j * 33, none⟩) := (hd 3 168 (by kernel_rfl))
                      clear hd hq
                      have c0 := HSP.out
                      refine op_value (wanted_free _ _ (by rfl)) (v := .string sx) (w'' := w') ?_ (hK _ _ hI (fun _ _ h => h) rfl)
                      clear hK
                      simp only [execOp, e168]
                      have f168 : a'.tmps[168]?.getD undef = .pointer (some ⟨bp, op + j * 33, none⟩) := (Array.getD_eq_getD_getElem? ..).symm.trans e168
                      clear e168
                      first | rfl | (go_simp <;> exact IntWalk.i64_in _ (by omega))
                    · intro a' w' K hI hd hq hK
                      have e21 : a'.eval (.tmp 21) = .slice (some ⟨bq, oq, none⟩) m cq := (hq 21 (by kernel_rfl)).trans rfl
                      clear hd hq
                      refine op_value (wanted_free _ _ (by rfl)) (v := .slice (some ⟨bq, oq, none⟩) m cq) (w'' := w') ?_ (hK _ _ hI (fun _ _ h => h) rfl)
                      clear hK
                      simp only [execOp, e21]
                      have f21 : a'.tmps[21]?.getD undef = .slice (some ⟨bq, oq, none⟩) m cq := (Array.getD_eq_getD_getElem? ..).symm.trans e21
                      clear e21
                      first | rfl | (go_simp <;> exact IntWalk.i64_in _ (by omega))
                    · intro a' w' K hI hd hq hK
                      have e24 : a'.eval (.tmp 24) = .int .i64 (j : Int) := (hq 24 (by kernel_rfl)).trans rfl
                      clear hd hq
                      refine op_value (wanted_free _ _ (by rfl)) (v := .int .i64 (j : Int)) (w'' := w') ?_ (hK _ _ hI (fun _ _ h => h) rfl)
                      clear hK
                      simp only [execOp, e24]
                      have f24 : a'.tmps[24]?.getD undef = .int .i64 (j : Int) := (Array.getD_eq_getD_getElem? ..).symm.trans e24
                      clear e24
                      first | rfl | (go_simp <;> exact IntWalk.i64_in _ (by omega))
                    · intro a' w' K hI hd hq hK
                      have e170 : a'.eval (.tmp 170) = .slice (some ⟨bq, oq, none⟩) m cq := (hd 5 170 (by kernel_rfl))
                      have e171 : a'.eval (.tmp 171) = .int .i64 (j : Int) := (hd 6 171 (by kernel_rfl))
                      clear hd hq
                      refine op_value (wanted_free _ _ (by rfl)) (v := .pointer (some ⟨bq, oq + j * 33, none⟩)) (w'' := w') ?_ (hK _ _ hI (fun _ _ h => h) rfl)
                      clear hK
                      simp only [execOp, e170, e171]
                      have f170 : a'.tmps[170]?.getD undef = .slice (some ⟨bq, oq, none⟩) m cq := (Array.getD_eq_getD_getElem? ..).symm.trans e170
                      have f171 : a'.tmps[171]?.getD undef = .int .i64 (j : Int) := (Array.getD_eq_getD_getElem? ..).symm.trans e171
                      clear e170 e171
                      first | rfl | (go_simp <;> exact IntWalk.i64_in _ (by omega))
                    · intro a' w' K hI hd hq hK
                      have e172 : a'.eval (.tmp 172) = .pointer (some ⟨bq, oq + j * 33, none⟩) := (hd 7 172 (by kernel_rfl))
                      clear hd hq
                      refine op_value (wanted_free _ _ (by rfl)) (v := .pointer (some ⟨bq, oq + j * 33, none⟩)) (w'' := w') ?_ (hK _ _ hI (fun _ _ h => h) rfl)
                      clear hK
                      simp only [execOp, e172]
                      have f172 : a'.tmps[172]?.getD undef = .pointer (some ⟨bq, oq + j * 33, none⟩) := (Array.getD_eq_getD_getElem? ..).symm.trans e172
                      clear e172
                      first | rfl | (go_simp <;> exact IntWalk.i64_in _ (by omega))
                    · intro a' w' K hI hd hq hK
                      have e173 : a'.eval (.tmp 173) = .pointer (some ⟨bq, oq + j * 33, none⟩) := (hd 8 173 (by kernel_rfl))
                      clear hd hq
                      have c0 := HSQ.out
                      refine op_value (wanted_free _ _ (by rfl)) (v := .string sx) (w'' := w') ?_ (hK _ _ hI (fun _ _ h => h) rfl)
                      clear hK
                      simp only [execOp, e173]
                      have f173 : a'.tmps[173]?.getD undef = .pointer (some ⟨bq, oq + j * 33, none⟩) := (Array.getD_eq_getD_getElem? ..).symm.trans e173
                      clear e173
                      first | rfl | (go_simp <;> exact IntWalk.i64_in _ (by omega))
                    · intro a' w' K hI hd hq hK
                      have e169 : a'.eval (.tmp 169) = .string sx := (hd 4 169 (by kernel_rfl))
                      have e174 : a'.eval (.tmp 174) = .string sx := (hd 9 174 (by kernel_rfl))
                      clear hd hq
                      refine op_value (wanted_free _ _ (by rfl)) (v := .bool false) (w'' := w') ?_ (hK _ _ hI (fun _ _ h => h) rfl)
                      clear hK
                      simp only [execOp, e169, e174]
                      have f169 : a'.tmps[169]?.getD undef = .string sx := (Array.getD_eq_getD_getElem? ..).symm.trans e169
                      have f174 : a'.tmps[174]?.getD undef = .string sx := (Array.getD_eq_getD_getElem? ..).symm.trans e174
                      clear e169 e174
                      first | rfl | (go_simp <;> exact IntWalk.i64_in _ (by omega))
                    · intro a' w' K hI hd hq hK
                      have e175 : a'.eval (.tmp 175) = .bool false := (hd 10 175 (by kernel_rfl))
                      clear hd hq
                      refine op_value (wanted_free _ _ (by rfl)) (v := .bool false) (w'' := w') ?_ (hK _ _ hI (fun _ _ h => h) rfl)
                      clear hK
                      simp only [execOp, e175]
                      have f175 : a'.tmps[175]?.getD undef = .bool false := (Array.getD_eq_getD_getElem? ..).symm.trans e175
                      clear e175
                      first | rfl | (go_simp <;> exact IntWalk.i64_in _ (by omega))
                    · intro a' w' K hI hd hq hK
                      have hg := hd 11 176 (by kernel_rfl)
                      have e18 : a'.eval (.tmp 18) = .slice (some ⟨bp, op, none⟩) m cp := (hq 18 (by kernel_rfl)).trans rfl
                      clear hd hq
                      refine op_value (wanted_on _ a' 11 176 false (by rfl) (by rfl) hg) (v := .slice (some ⟨bp, op, none⟩) m cp) (w'' := w') ?_ (hK _ _ hI (fun _ _ h => h) rfl)
                      clear hK
                      simp only [execOp, e18]
                      have f18 : a'.tmps[18]?.getD undef = .slice (some ⟨bp, op, none⟩) m cp := (Array.getD_eq_getD_getElem? ..).symm.trans e18
                      clear e18
                      first | rfl | (go_simp <;> exact IntWalk.i64_in _ (by omega))
                    · intro a' w' K hI hd hq hK
                      have hg := hd 11 176 (by kernel_rfl)
                      have e24 : a'.eval (.tmp 24) = .int .i64 (j : Int) := (hq 24 (by kernel_rfl)).trans rfl
                      clear hd hq
                      refine op_value (wanted_on _ a' 11 176 false (by rfl) (by rfl) hg) (v := .int .i64 (j : Int)) (w'' := w') ?_ (hK _ _ hI (fun _ _ h => h) rfl)
                      clear hK
                      simp only [execOp, e24]
                      have f24 : a'.tmps[24]?.getD undef = .int .i64 (j : Int) := (Array.getD_eq_getD_getElem? ..).symm.trans e24
                      clear e24
                      first | rfl | (go_simp <;> exact IntWalk.i64_in _ (by omega))
                    · intro a' w' K hI hd hq hK
                      have hg := hd 11 176 (by kernel_rfl)
                      have e177 : a'.eval (.tmp 177) = .slice (some ⟨bp, op, none⟩) m cp := (hd 12 177 (by kernel_rfl))
                      have e178 : a'.eval (.tmp 178) = .int .i64 (j : Int) := (hd 13 178 (by kernel_rfl))
                      clear hd hq
                      refine op_value (wanted_on _ a' 11 176 false (by rfl) (by rfl) hg) (v := .pointer (some ⟨bp, op + j * 33, none⟩)) (w'' := w') ?_ (hK _ _ hI (fun _ _ h => h) rfl)
                      clear hK
                      simp only [execOp, e177, e178]
                      have f177 : a'.tmps[177]?.getD undef = .slice (some ⟨bp, op, none⟩) m cp := (Array.getD_eq_getD_getElem? ..).symm.trans e177
                      have f178 : a'.tmps[178]?.getD undef = .int .i64 (j : Int) := (Array.getD_eq_getD_getElem? ..).symm.trans e178
                      clear e177 e178
                      first | rfl | (go_simp <;> exact IntWalk.i64_in _ (by omega))
                    · intro a' w' K hI hd hq hK
                      have hg := hd 11 176 (by kernel_rfl)
                      have e179 : a'.eval (.tmp 179) = .pointer (some ⟨bp, op + j * 33, none⟩) := (hd 14 179 (by kernel_rfl))
                      clear hd hq
                      refine op_value (wanted_on _ a' 11 176 false (by rfl) (by rfl) hg) (v := .pointer (some ⟨bp, op + j * 33 + 1, none⟩)) (w'' := w') ?_ (hK _ _ hI (fun _ _ h => h) rfl)
                      clear hK
                      simp only [execOp, e179]
                      have f179 : a'.tmps[179]?.getD undef = .pointer (some ⟨bp, op + j * 33, none⟩) := (Array.getD_eq_getD_getElem? ..).symm.trans e179
                      clear e179
                      first | rfl | (go_simp <;> exact IntWalk.i64_in _ (by omega))
                    · intro a' w' K hI hd hq hK
                      have hg := hd 11 176 (by kernel_rfl)
                      have e180 : a'.eval (.tmp 180) = .pointer (some ⟨bp, op + j * 33 + 1, none⟩) := (hd 15 180 (by kernel_rfl))
                      clear hd hq
                      subst hI
                      refine op_value (wanted_on _ a' 11 176 false (by rfl) (by rfl) hg) (v := .agg gc) (w'' := wr.drew) ?_ (hK _ _ rfl (fun _ _ h => h) rfl)
                      rw [EGC.out]
                      simp only [execOp, e180, Instr.loadAt, Instr.sureAddr, Sem.run_bind, Sem.run_pure, Result.andThen_ok, run_loadVar_mid wr.drew bp (op + j * 33 + 1) 28 (bv g) _ HRP.out Try.underlying28 rfl (by rw [bv_length, HGLN.out]; exact info72)]
                    · intro a' w' K hI hd hq hK
                      have hg := hd 11 176 (by kernel_rfl)
                      have e21 : a'.eval (.tmp 21) = .slice (some ⟨bq, oq, none⟩) m cq := (hq 21 (by kernel_rfl)).trans rfl
                      clear hd hq
                      refine op_value (wanted_on _ a' 11 176 false (by rfl) (by rfl) hg) (v := .slice (some ⟨bq, oq, none⟩) m cq) (w'' := w') ?_ (hK _ _ hI (fun _ _ h => h) rfl)
                      clear hK
                      simp only [execOp, e21]
                      have f21 : a'.tmps[21]?.getD undef = .slice (some ⟨bq, oq, none⟩) m cq := (Array.getD_eq_getD_getElem? ..).symm.trans e21
                      clear e21
                      first | rfl | (go_simp <;> exact IntWalk.i64_in _ (by omega))
                    · intro a' w' K hI hd hq hK
                      have hg := hd 11 176 (by kernel_rfl)
                      have e24 : a'.eval (.tmp 24) = .int .i64 (j : Int) := (hq 24 (by kernel_rfl)).trans rfl
                      clear hd hq
                      refine op_value (wanted_on _ a' 11 176 false (by rfl) (by rfl) hg) (v := .int .i64 (j : Int)) (w'' := w') ?_ (hK _ _ hI (fun _ _ h => h) rfl)
                      clear hK
                      simp only [execOp, e24]
                      have f24 : a'.tmps[24]?.getD undef = .int .i64 (j : Int) := (Array.getD_eq_getD_getElem? ..).symm.trans e24
                      clear e24
                      first | rfl | (go_simp <;> exact IntWalk.i64_in _ (by omega))
                    · intro a' w' K hI hd hq hK
                      have hg := hd 11 176 (by kernel_rfl)
                      have e182 : a'.eval (.tmp 182) = .slice (some ⟨bq, oq, none⟩) m cq := (hd 17 182 (by kernel_rfl))
                      have e183 : a'.eval (.tmp 183) = .int .i64 (j : Int) := (hd 18 183 (by kernel_rfl))
                      clear hd hq
                      refine op_value (wanted_on _ a' 11 176 false (by rfl) (by rfl) hg) (v := .pointer (some ⟨bq, oq + j * 33, none⟩)) (w'' := w') ?_ (hK _ _ hI (fun _ _ h => h) rfl)
                      clear hK
                      simp only [execOp, e182, e183]
                      have f182 : a'.tmps[182]?.getD undef = .slice (some ⟨bq, oq, none⟩) m cq := (Array.getD_eq_getD_getElem? ..).symm.trans e182
                      have f183 : a'.tmps[183]?.getD undef = .int .i64 (j : Int) := (Array.getD_eq_getD_getElem? ..).symm.trans e183
                      clear e182 e183
                      first | rfl | (go_simp <;> exact IntWalk.i64_in _ (by omega))
                    · intro a' w' K hI hd hq hK
                      have hg := hd 11 176 (by kernel_rfl)
                      have e184 : a'.eval (.tmp 184) = .pointer (some ⟨bq, oq + j * 33, none⟩) := (hd 19 184 (by kernel_rfl))
                      clear hd hq
                      refine op_value (wanted_on _ a' 11 176 false (by rfl) (by rfl) hg) (v := .pointer (some ⟨bq, oq + j * 33 + 1, none⟩)) (w'' := w') ?_ (hK _ _ hI (fun _ _ h => h) rfl)
                      clear hK
                      simp only [execOp, e184]
                      have f184 : a'.tmps[184]?.getD undef = .pointer (some ⟨bq, oq + j * 33, none⟩) := (Array.getD_eq_getD_getElem? ..).symm.trans e184
                      clear e184
                      first | rfl | (go_simp <;> exact IntWalk.i64_in _ (by omega))
                    · intro a' w' K hI hd hq hK
                      have hg := hd 11 176 (by kernel_rfl)
                      have e185 : a'.eval (.tmp 185) = .pointer (some ⟨bq, oq + j * 33 + 1, none⟩) := (hd 20 185 (by kernel_rfl))
                      clear hd hq
                      subst hI
                      refine op_value (wanted_on _ a' 11 176 false (by rfl) (by rfl) hg) (v := .agg gc) (w'' := wr.drew) ?_ (hK _ _ rfl (fun _ _ h => h) rfl)
                      rw [EGC.out]
                      simp only [execOp, e185, Instr.loadAt, Instr.sureAddr, Sem.run_bind, Sem.run_pure, Result.andThen_ok, run_loadVar_mid wr.drew bq (oq + j * 33 + 1) 28 (bv g) _ HRQ.out Try.underlying28 rfl (by rw [bv_length, HGLN.out]; exact info72)]
                    · intro a' w' K hI hd hq hK
                      have hg := hd 11 176 (by kernel_rfl)
                      have e181 : a'.eval (.tmp 181) = .agg gc := (hd 16 181 (by kernel_rfl))
                      have e186 : a'.eval (.tmp 186) = .agg gc := (hd 21 186 (by kernel_rfl))
                      clear hd hq
                      refine op_value (wanted_on _ a' 11 176 false (by rfl) (by rfl) hg) (v := .bool false) (w'' := w') ?_ (hK _ _ hI (fun _ _ h => h) rfl)
                      simp only [execOp, e181, e186, Sem.run_bind, run_eqGuard_agg w' _ 28 _ _ _ _ (show Try.prog.eqGuardType Try.prog.depth 28 = false by kernel_rfl), run_neq_struct, HEQ.out w', Result.andThen_ok, Sem.run_pure, Bool.not_true]
                    · intro a' w' K hI hd hq hK
                      have e176 : a'.eval (.tmp 176) = .bool false := (hd 11 176 (by kernel_rfl))
                      have e187 : a'.eval (.tmp 187) = .bool false := (hd 22 187 (by kernel_rfl))
                      clear hd hq
                      refine op_value (wanted_free _ _ (by rfl)) (v := .bool false) (w'' := w') ?_ (hK _ _ hI (fun _ _ h => h) rfl)
                      clear hK
                      simp only [execOp, e176, e187]
                      have f176 : a'.tmps[176]?.getD undef = .bool false := (Array.getD_eq_getD_getElem? ..).symm.trans e176
                      have f187 : a'.tmps[187]?.getD undef = .bool false := (Array.getD_eq_getD_getElem? ..).symm.trans e187
                      clear e176 e187
                      first | rfl | (go_simp <;> exact IntWalk.i64_in _ (by omega))
                  case fin30 =>
                    rintro w' hI _ rfl _ rfl _ rfl _ rfl _ rfl _ rfl _ rfl _ rfl _ rfl _ rfl _ rfl _ rfl _ rfl _ rfl _ rfl _ rfl _ rfl _ rfl _ rfl _ rfl _ rfl _ rfl _ rfl _ rfl
                    simp only [Act.put, List.setIfInBounds_toArray, List.set_cons_zero, List.set_cons_succ, FinGoal]
                    subst hI
                    have HE2 := Lib.hid HBR2.out.drew
                    go_wp2_with fail
                    go_roundg (m - (j + 1))
                    case measure => have := HGK2.out; have := HJM.out; omega
                    case rel => exact ⟨j + 1, HJM.out, rfl, by go_num, HE2.out⟩
                · have hjn : decide ((j : Int) < (m : Int)) = false := by simp; omega
                  have HBX := Lib.hid (below_below B19.out B19.out.size HBR2.out)
                  go_wp2_with fail
                  go_roundg (2 - (i + 1))
                  case measure => have := HGK.out; have := HLT.out; omega
                  case rel => exact ⟨i + 1, HLT.out, rfl, by go_num, HBX.out⟩
            · have hin : decide ((i : Int) < 2) = false := by simp; omega
              go_wp2_with fail
              refine (known19_any _).mono ?_
              rintro e w20 ⟨rfl, hb⟩
              have HB20 := Lib.hid (below_below (below_below HB15.out HB15.out.size HBR.out) (below_below HB15.out HB15.out.size HBR.out).size hb)
              clear hb
              go_wp2_with fail
              go_ret
              exact ⟨rfl, HB20.out⟩
end Go.Proofs.Ythlbmjjodjepjaa
