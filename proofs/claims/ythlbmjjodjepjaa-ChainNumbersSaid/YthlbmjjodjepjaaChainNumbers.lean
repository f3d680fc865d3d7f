/-
  The walk of the law ChainNumbers.
-/
import Derived.Test.YthlbmjjodjepjaaHeads
import Derived.Test.YthlbmjjodjepjaaReadBad
import Derived.Test.YthlbmjjodjepjaaRefNext
set_option linter.unusedVariables false
set_option linter.unusedSimpArgs false
namespace Go.Proofs.Ythlbmjjodjepjaa
open Go.RowKit

set_option maxRecDepth 100000 in
set_option maxHeartbeats 16000000 in
theorem chainNumbers_any (w : World) : Calls Try.prog 14 #[] w fun e w' => e = .returned (.bool true) ∧ Below w.heap.size w w' := by
  obtain ⟨h1, e1⟩ : ∃ h, h = headOf [[97]] := ⟨_, rfl⟩
  obtain ⟨h2, e2⟩ : ∃ h, h = headOf [[97], [98]] := ⟨_, rfl⟩
  obtain ⟨h3, e3⟩ : ∃ h, h = headOf [[97], [98], [99]] := ⟨_, rfl⟩
  have l1 : h1.length = 32 := by rw [e1]; exact headOf_length _
  have l2 : h2.length = 32 := by rw [e2]; exact headOf_length _
  have l3 : h3.length = 32 := by rw [e3]; exact headOf_length _
  obtain ⟨M, eM⟩ : ∃ M : List (List UInt8 × List UInt8), M = [([97], h1), ([98], h2), ([99], h3)] := ⟨_, rfl⟩
  obtain ⟨M', eM'⟩ : ∃ M' : List (List UInt8 × List UInt8), M' = [([97], h1), ([120], h2), ([99], h3)] := ⟨_, rfl⟩
  have hML3 : mkOf [[97], [98], [99]] = M := by rw [L3_eq, eM, e1, e2, e3]
  have HML3 := Lib.hid hML3
  have HML := Lib.hid (show M.length = 3 by rw [eM]; rfl)
  have HMH := Lib.hid (show ∀ x ∈ M, x.2.length = 32 by rw [eM]; simp [l1, l2, l3])
  have HMT := Lib.hid (show ∀ x ∈ M, x.1.length ≤ 4000 by rw [eM]; simp)
  have HML' := Lib.hid (show M'.length = 3 by rw [eM']; rfl)
  have HMH' := Lib.hid (show ∀ x ∈ M', x.2.length = 32 by rw [eM']; simp [l1, l2, l3])
  have HMT' := Lib.hid (show ∀ x ∈ M', x.1.length ≤ 4000 by rw [eM']; simp)
  have HCK := Lib.hid (show checkOf M' = 1 by rw [eM']; exact check_b h1 h2 h3 e1 e2)
  have HPO := Lib.hid (show posOf M' 1 = 41 by rw [eM', posOf_one _ _ _ l1]; rfl)
  have HSET := Lib.hid (show (lv M).set 33 (.string (strB [120])) = lv M' by rw [eM, eM', lv_three _ _ _ _ l1])
  have HC33 := Lib.hid (show ∃ u, (lv M)[33]? = some u from ⟨_, List.getElem?_eq_getElem (by rw [lv_length M HMH.out, HML.out]; omega)⟩)
  have HM0 := Lib.hid (show ∀ h : 0 < M.length, M[0] = ([97], h1) from fun h => by subst eM; rfl)
  have HT2 := Lib.hid (show M.map (·.1) = [[97], [98], [99]] by rw [eM]; rfl)
  have HN1 := Lib.hid (show nextOf hd0 [97] = h1 by rw [e1]; rfl)
  have HL1 := Lib.hid l1
  clear e1 e2 e3 l1 l2 l3 eM eM' hML3
  obtain ⟨z32, hz32⟩ : ∃ z32, z32 = (bv hd0).toArray := ⟨_, rfl⟩
  have HZ32 := Lib.hid hz32
  clear hz32
  go_enter Try.func14, Try.ntmps14
  go_wp2_with fail
  refine (make_any _ 3 3 [[97], [98], [99]] _ rfl (by omega) (by simp) (RC_newL w [.string (strB [97]), .string (strB [98]), .string (strB [99])] 9)).mono ?_
  rw [HML3.out]
  rintro e w1 ⟨v1, rfl, ho, hb⟩
  obtain ⟨ga, ca, rfl, _, _⟩ := own_form ho (by simp)
  have RA1 := Lib.hid (own_RC ho)
  have B1 := Lib.hid (show Below w.heap.size w w1 from below_below ((Below.refl _ _).alloc (Nat.le_refl _) _) (by simp) hb)
  clear ho hb
  go_wp2_with (at_builtin; refine append_any rfl _ _ 26 rfl w1.heap.size 30 (.agg (lk ([], hd0)).toArray) 33 48 Try.underlying26 infoLk (by kernel_rfl) (by omega) (by omega) _ 0 [] rfl (own_empty w1 30 33) (some ⟨ga, 0, none⟩) 3 ca (lv M) rfl ?c1 ?c2 (lv_one _) ?c3 ?c4 ?_)
  case c1 => rw [lv_length M HMH.out, HML.out]
  case c2 => exact RA1.out.below ((Below.refl _ _).alloc (Nat.le_refl _) _)
  case c3 => omega
  case c4 => simp
  intro v2 w2 ho hg _
  have ho2 : w2.ownsRow w1.heap.size 30 33 v2 3 (lv M) := by simpa using ho
  obtain ⟨gb, cb, rfl, hgb, _⟩ := own_form ho2 (by omega)
  have hb2 : Below w1.heap.size w1 w2 := ((Below.refl _ _).alloc (Nat.le_refl _) _).grown hg (by simp) (fun k hk => by simp [Value.ownBlock] at hk; omega)
  obtain ⟨ov, hov⟩ := HC33.out
  have c33 : w2.cell? ⟨gb, 33, none⟩ = some ov := by rw [World.ownsRow.cellAt ho2 33 (by omega)]; exact hov
  have f33 := World.ownsRow.frozenAt ho2 33
  have HO2 := Lib.hid ho2
  have HB2 := Lib.hid hb2
  have HGB := Lib.hid hgb
  clear ho hg ho2 hb2 hgb hov
  go_upto_region 6 with fail
  obtain ⟨w3, hw3⟩ : ∃ w3, w3 = w2.setCell ⟨gb, 33, none⟩ (.string (strB [120])) := ⟨_, rfl⟩
  have ew3 : w2.setCell ⟨gb, 33, none⟩ (.string { data := #[120] }) = w3 := hw3.symm
  rw [ew3]
  have RB3 := Lib.hid (show RC w3 (some ⟨gb, 0, none⟩) (lv M') by
    rw [hw3, ← HSET.out]
    exact own_RC (World.ownsRow.stored HO2.out 33 _).1)
  have hb3 : Below w1.heap.size w1 w3 := by rw [hw3]; exact HB2.out.setCell HGB.out _
  have RA3 := Lib.hid (RA1.out.below hb3)
  have B3 := Lib.hid (below_below B1.out B1.out.size hb3)
  clear hw3 ew3 c33 f33 HO2 HB2 hb3 RA1 B1
  go_wp2_with fail
  refine (decode_bad (some ⟨w3.heap.size, 0, none⟩) 4 4 [0, 0, 16, 1] _ rfl (by omega) (RB_new w3 [0, 0, 16, 1] 5) (fun h => by cases h) 4 3 0 (by decide) (fun w1 q vq h => countLong_any w1 _ q vq [0, 0, 16, 1] 0 h (by simp) (by simp) 4096 4097 (by decide) (by omega) (by omega))).mono ?_
  rintro e w4 ⟨rfl, hb⟩
  have hb34 : Below w3.heap.size w3 w4 := below_below ((Below.refl _ _).alloc (Nat.le_refl _) _) (by simp) hb
  have RB4 := Lib.hid (RB3.out.below hb34)
  have RA4 := Lib.hid (RA3.out.below hb34)
  have B4 := Lib.hid (below_below B3.out B3.out.size hb34)
  clear hb hb34 RB3 RA3 B3
  go_wp2_with fail
  refine (decode_bad none 0 0 [] _ rfl (by omega) (RB.nil _ _) (fun _ => rfl) 0 10 0 (by decide) (fun w1 q vq h => countShort_any w1 _ q vq [] 0 h (by simp) (by simp) (by simp) 4096 (by omega))).mono ?_
  rintro e w5 ⟨rfl, hb⟩
  have RB5 := Lib.hid (RB4.out.below hb)
  have RA5 := Lib.hid (RA4.out.below hb)
  have B5 := Lib.hid (below_below B4.out B4.out.size hb)
  clear hb RB4 RA4 B4
  go_wp2_with fail
  refine (encode_any (some ⟨gb, 0, none⟩) 3 cb M' w5 HML'.out (by omega) HMH'.out HMT'.out RB5.out).mono ?_
  rintro e w6 ⟨v6, rfl, ho, hb⟩
  obtain ⟨g6, c6, rfl, _, _⟩ := own_form ho (by rw [encOf, List.length_append, be4n_length]; omega)
  have RE6 := Lib.hid (own_RC ho).bytes
  have RB6 := Lib.hid (RB5.out.below hb)
  have RA6 := Lib.hid (RA5.out.below hb)
  have B6 := Lib.hid (below_below B5.out B5.out.size hb)
  clear ho hb RB5 RA5 B5
  go_wp2_with fail
  refine (decode_any (some ⟨g6, 0, none⟩) _ c6 M' w6 rfl (by rw [HML'.out]; omega) HMH'.out HMT'.out RE6.out (fun h => by cases h)).mono ?_
  rw [HCK.out, HPO.out, HML'.out]
  rintro e w7 ⟨hb, hx⟩
  have he : e = .returned (.tuple #[.slice none 0 0, .int .i64 12, .int .i64 41]) := by
    rcases hx with ⟨h, _⟩ | ⟨_, h⟩
    · omega
    · exact h
  subst he
  have RB7 := Lib.hid (RB6.out.below hb)
  have RA7 := Lib.hid (RA6.out.below hb)
  have B7 := Lib.hid (below_below B6.out B6.out.size hb)
  clear hb hx RB6 RA6 B6 RE6
  go_wp2_with fail
  refine (encode_any (some ⟨ga, 0, none⟩) 3 ca M w7 HML.out (by omega) HMH.out HMT.out RA7.out).mono ?_
  rintro e w8 ⟨v8, rfl, ho, hb⟩
  obtain ⟨g8, c8, rfl, _, _⟩ := own_form ho (by rw [encOf, List.length_append, be4n_length]; omega)
  have RE8 := Lib.hid (own_RC ho).bytes
  have RB8 := Lib.hid (RB7.out.below hb)
  have RA8 := Lib.hid (RA7.out.below hb)
  have B8 := Lib.hid (below_below B7.out B7.out.size hb)
  clear ho hb RB7 RA7 B7
  go_wp2_with fail
  refine (decode_made (some ⟨g8, 0, none⟩) _ c8 [[97], [98], [99]] w8 (by rw [HML3.out]) (by simp) (by simp) (by rw [HML3.out]; exact RE8.out) (fun h => by cases h)).mono ?_
  rintro e w9 ⟨v9, rfl, ho, hb⟩
  have ho9 : ∃ A c, v9 = .slice A 3 c := by
    obtain ⟨A, c, h, _⟩ := own_slice ho
    exact ⟨A, c, h⟩
  obtain ⟨A9, c9, rfl⟩ := ho9
  have RB9 := RB8.out.below hb
  have RA9 := RA8.out.below hb
  have B9 := Lib.hid (below_below B8.out B8.out.size hb)
  obtain ⟨gz, hgz⟩ : ∃ gz, gz = w9.heap.size := ⟨_, rfl⟩
  go_upto_region 10 with fail
  refine wp_region_lit ?_
  refine Great.wpList_allocTo rfl _ rfl (.pointer (some ⟨gz, 0, none⟩)) (.cells z32 28) ?x1 ?_
  case x1 => rw [HZ32.out, hgz]; kernel_rfl
  refine wpList_nil ?_
  rename_i hK
  refine hK _ _ ?_
  clear hK
  obtain ⟨w10, hw10⟩ : ∃ w10, w10 = w9.alloc (.cells z32 28) := ⟨_, rfl⟩
  rw [← hw10]
  have hb10 : Below w9.heap.size w9 w10 := by rw [hw10]; exact (Below.refl _ _).alloc (Nat.le_refl _) _
  have hz10 : w10.heap[gz]? = some (.cells z32 28) := by rw [hw10, hgz]; exact heap_alloc_new w9 _
  have hzl : gz < w10.heap.size := (Array.getElem?_eq_some_iff.1 hz10).1
  have HRB := Lib.hid (show ∀ W, Below w10.heap.size w10 W → RC W (some ⟨gb, 0, none⟩) (lv M') from fun W h => (RB9.below hb10).below h)
  have HRA := Lib.hid (show ∀ W, Below w10.heap.size w10 W → RC W (some ⟨ga, 0, none⟩) (lv M) from fun W h => (RA9.below hb10).below h)
  have HRZ := Lib.hid (show ∀ W, Below w10.heap.size w10 W → W.heap[gz]? = some (.cells z32 28) from fun W h => (h.block gz hzl).trans hz10)
  have HRH := Lib.hid (show ∀ W, Below w10.heap.size w10 W → W.rangeAt ga 1 (bv h1) from fun W h j v hj => by
    obtain ⟨ad, e, hc⟩ := HRA.out W h (by rw [lv_length M HMH.out, HML.out]; omega)
    cases e
    have h2 := lk_range HMH.out (fun j u hj => by have := hc j u hj; rwa [add_off] at this) 0 (by rw [HML.out]; omega)
    rw [HM0.out] at h2
    have := h2 (j + 1) v (by simpa [lk] using hj)
    rwa [show 0 + 0 * 33 + (j + 1) = 1 + j by omega] at this)
  have B10 := Lib.hid (below_below B9.out B9.out.size hb10)
  obtain ⟨hc1, ehc1⟩ : ∃ hc1, hc1 = (bv h1).toArray := ⟨_, rfl⟩
  have EHC1 := Lib.hid ehc1
  have HEQ := Lib.hid (show ∀ W, (Op.equalIn 10000 28 (.agg hc1) (.agg hc1)).run Try.prog W = .ok true W by
    intro W
    rw [ehc1, eq32 h1 h1 HL1.out HL1.out, decide_eq_true rfl])
  have HZS := Lib.hid (show (Try.prog.info? 28).map (·.size) = some z32.size by rw [HZ32.out]; exact info72)
  clear ho hb RB8 RA8 B8 RB9 RA9 B9 hgz hw10 hb10 hz10 hzl ehc1 RE8
  go_upto_region 11 with fail
  refine region_by (fun W => Below w10.heap.size w10 W ∧ Below w.heap.size w W) [(fun v _ => v = .slice (some ⟨gb, 0, none⟩) 3 cb), fun v _ => v = .int .i64 1, (fun v _ => v = (.bool true)), (fun v _ => v = (.bool true)), (fun v _ => v = .int .i64 3), (fun v _ => v = (.bool true)), (fun v _ => v = (.bool true)), (fun v _ => v = (.bool true)), (fun v _ => v = .int .i64 0), (fun v _ => v = (.bool true)), (fun v _ => v = (.bool true)), (fun v _ => v = (.bool true)), (fun v _ => v = .int .i64 10), (fun v _ => v = (.bool true)), (fun v _ => v = (.bool true)), (fun v _ => v = (.bool true)), (fun v _ => v = .int .i64 0), (fun v _ => v = (.bool true)), (fun v _ => v = (.bool true)), (fun v _ => v = (.bool true)), (fun v _ => v = .int .i64 12), (fun v _ => v = (.bool true)), (fun v _ => v = (.bool true)), (fun v _ => v = (.bool true)), (fun v _ => v = .int .i64 41), (fun v _ => v = (.bool true)), (fun v _ => v = (.bool true)), (fun v _ => v = (.bool true)), (fun v _ => v = .slice A9 3 c9), (fun v _ => v = .int .i64 3), (fun v _ => v = (.bool true)), (fun v _ => v = (.bool true)), (fun v _ => v = (.bool true)), (fun v _ => v = .int .i64 0), (fun v _ => v = (.bool true)), (fun v _ => v = (.bool true)), (fun v _ => v = (.bool true)), (fun v _ => v = .slice (some ⟨ga, 0, none⟩) 3 ca), (fun v _ => v = .pointer (some ⟨ga, 0, none⟩)), (fun v _ => v = .pointer (some ⟨ga, 1, none⟩)), fun v _ => v = .agg hc1, fun v _ => v = .agg z32, fun v _ => v = .agg hc1, fun v _ => v = .bool true, (fun v _ => v = (.bool true)), (fun v _ => v = (.bool true)), fun v _ => ∃ A c, v = .slice A 0 c, fun v _ => v = .int .i64 0, (fun v _ => v = (.bool true)), (fun v _ => v = (.bool true)), (fun v _ => v = (.bool true)), (fun v _ => v = .slice (some ⟨ga, 0, none⟩) 3 ca), fun v _ => ∃ A c, v = .slice A 3 c, fun v _ => v = .int .i64 3, (fun v _ => v = (.bool true)), (fun v _ => v = (.bool true)), (fun v _ => v = (.bool true)), (fun v _ => v = .slice (some ⟨ga, 0, none⟩) 3 ca), fun v w' => ∃ g c, v = .slice (some ⟨g, 0, none⟩) 3 c ∧ w'.cell? ⟨g, 2, none⟩ = some (.string (strB [99])), fun v w' => ∃ g, v = .pointer (some ⟨g, 2, none⟩) ∧ w'.cell? ⟨g, 2, none⟩ = some (.string (strB [99])), fun v _ => v = .string (strB [99]), fun v _ => v = .bool true, (fun v _ => v = (.bool true)), (fun v _ => v = (.bool true)), fun v _ => v = .bool true, (fun v _ => v = (.bool true)), (fun v _ => v = (.bool true))] (by kernel_rfl) (by kernel_rfl) (by kernel_rfl) rfl (⟨(Below.refl _ _).drew, B10.out.drew⟩) ?ok11 ?fin11
  case ok11 =>
    refine ⟨?_, ?_, ?_, ?_, ?_, ?_, ?_, ?_, ?_, ?_, ?_, ?_, ?_, ?_, ?_, ?_, ?_, ?_, ?_, ?_, ?_, ?_, ?_, ?_, ?_, ?_, ?_, ?_, ?_, ?_, ?_, ?_, ?_, ?_, ?_, ?_, ?_, ?_, ?_, ?_, ?_, ?_, ?_, ?_, ?_, ?_, ?_, ?_, ?_, ?_, ?_, ?_, ?_, ?_, ?_, ?_, ?_, ?_, ?_, ?_, ?_, ?_, ?_, ?_, ?_, ?_, ?_, trivial⟩
    · intro a' w' K hI hd hq hK
      have e2 : a'.eval (.tmp 2) = .slice (some ⟨gb, 0, none⟩) 3 cb := (hq 2 (by kernel_rfl)).trans rfl
      clear hd hq
      refine op_value (wanted_free _ _ (by rfl)) (v := .slice (some ⟨gb, 0, none⟩) 3 cb) (w'' := w') ?_ (hK _ _ hI (fun _ _ h => h) rfl)
      clear hK
      simp only [execOp, e2]
      have f2 : a'.tmps[2]?.getD undef = .slice (some ⟨gb, 0, none⟩) 3 cb := (Array.getD_eq_getD_getElem? ..).symm.trans e2
      clear e2
      first | rfl | (go_simp <;> exact IntWalk.i64_in _ (by omega))
    · intro a' w' K hI hd hq hK
      have e52 : a'.eval (.tmp 52) = .slice (some ⟨gb, 0, none⟩) 3 cb := (hd 0 52 (by kernel_rfl))
      clear hd hq
      refine op_call #[.slice (some ⟨gb, 0, none⟩) 3 cb] (wanted_free _ _ (by rfl)) rfl Try.func47 (by kernel_rfl) rfl (by simp [e52]) ?_
      refine (check_any (some ⟨gb, 0, none⟩) 3 cb M' w' HML'.out (by omega) (fun x hx => by have := HMT'.out x hx; omega) HMH'.out (HRB.out _ hI.1)).mono ?_
      rw [HCK.out]
      rintro e w6 ⟨rfl, hb⟩
      refine ⟨_, rfl, hK _ _ ⟨below_below hI.1 hI.1.size hb, below_below hI.2 hI.2.size hb⟩ (fun j u => by match j with | 58 => exact fun ⟨g, c, h1, h2⟩ => ⟨g, c, h1, cell_below hb h2⟩ | 59 => exact fun ⟨g, h1, h2⟩ => ⟨g, h1, cell_below hb h2⟩ | 0 | 1 | 2 | 3 | 4 | 5 | 6 | 7 | 8 | 9 | 10 | 11 | 12 | 13 | 14 | 15 | 16 | 17 | 18 | 19 | 20 | 21 | 22 | 23 | 24 | 25 | 26 | 27 | 28 | 29 | 30 | 31 | 32 | 33 | 34 | 35 | 36 | 37 | 38 | 39 | 40 | 41 | 42 | 43 | 44 | 45 | 46 | 47 | 48 | 49 | 50 | 51 | 52 | 53 | 54 | 55 | 56 | 57 | 60 | 61 | 62 | 63 | 64 | 65 | 66 => exact fun h => h | _ + 67 => exact fun _ => trivial) rfl⟩
    · intro a' w' K hI hd hq hK
      have e53 : a'.eval (.tmp 53) = .int .i64 1 := (hd 1 53 (by kernel_rfl))
      clear hd hq
      refine op_value (wanted_free _ _ (by rfl)) (v := (.bool true)) (w'' := w') ?_ (hK _ _ hI (fun _ _ h => h) rfl)
      clear hK
      simp only [execOp, e53]
      have f53 : a'.tmps[53]?.getD undef = .int .i64 1 := (Array.getD_eq_getD_getElem? ..).symm.trans e53
      clear e53
      first | rfl | (go_simp <;> exact IntWalk.i64_in _ (by omega))
    · intro a' w' K hI hd hq hK
      have e54 : a'.eval (.tmp 54) = (.bool true) := (hd 2 54 (by kernel_rfl))
      clear hd hq
      refine op_value (wanted_free _ _ (by rfl)) (v := (.bool true)) (w'' := w') ?_ (hK _ _ hI (fun _ _ h => h) rfl)
      clear hK
      simp only [execOp, e54]
      have f54 : a'.tmps[54]?.getD undef = (.bool true) := (Array.getD_eq_getD_getElem? ..).symm.trans e54
      clear e54
      first | rfl | (go_simp <;> exact IntWalk.i64_in _ (by omega))
    · intro a' w' K hI hd hq hK
      have hg := hd 3 55 (by kernel_rfl)
      have e4 : a'.eval (.tmp 4) = .int .i64 3 := (hq 4 (by kernel_rfl)).trans rfl
      clear hd hq
      refine op_value (wanted_on _ a' 3 55 true (by rfl) (by rfl) hg) (v := .int .i64 3) (w'' := w') ?_ (hK _ _ hI (fun _ _ h => h) rfl)
      clear hK
      simp only [execOp, e4]
      have f4 : a'.tmps[4]?.getD undef = .int .i64 3 := (Array.getD_eq_getD_getElem? ..).symm.trans e4
      clear e4
      first | rfl | (go_simp <;> exact IntWalk.i64_in _ (by omega))
    · intro a' w' K hI hd hq hK
      have hg := hd 3 55 (by kernel_rfl)
      have e56 : a'.eval (.tmp 56) = .int .i64 3 := (hd 4 56 (by kernel_rfl))
      clear hd hq
      refine op_value (wanted_on _ a' 3 55 true (by rfl) (by rfl) hg) (v := (.bool true)) (w'' := w') ?_ (hK _ _ hI (fun _ _ h => h) rfl)
      clear hK
      simp only [execOp, e56]
      have f56 : a'.tmps[56]?.getD undef = .int .i64 3 := (Array.getD_eq_getD_getElem? ..).symm.trans e56
      clear e56
      first | rfl | (go_simp <;> exact IntWalk.i64_in _ (by omega))
    · intro a' w' K hI hd hq hK
      have e55 : a'.eval (.tmp 55) = (.bool true) := (hd 3 55 (by kernel_rfl))
      have e57 : a'.eval (.tmp 57) = (.bool true) := (hd 5 57 (by kernel_rfl))
      clear hd hq
      refine op_value (wanted_free _ _ (by rfl)) (v := (.bool true)) (w'' := w') ?_ (hK _ _ hI (fun _ _ h => h) rfl)
      clear hK
      simp only [execOp, e55, e57]
      have f55 : a'.tmps[55]?.getD undef = (.bool true) := (Array.getD_eq_getD_getElem? ..).symm.trans e55
      have f57 : a'.tmps[57]?.getD undef = (.bool true) := (Array.getD_eq_getD_getElem? ..).symm.trans e57
      clear e55 e57
      first | rfl | (go_simp <;> exact IntWalk.i64_in _ (by omega))
    · intro a' w' K hI hd hq hK
      have e58 : a'.eval (.tmp 58) = (.bool true) := (hd 6 58 (by kernel_rfl))
      clear hd hq
      refine op_value (wanted_free _ _ (by rfl)) (v := (.bool true)) (w'' := w') ?_ (hK _ _ hI (fun _ _ h => h) rfl)
      clear hK
      simp only [execOp, e58]
      have f58 : a'.tmps[58]?.getD undef = (.bool true) := (Array.getD_eq_getD_getElem? ..).symm.trans e58
      clear e58
      first | rfl | (go_simp <;> exact IntWalk.i64_in _ (by omega))
    · intro a' w' K hI hd hq hK
      have hg := hd 7 59 (by kernel_rfl)
      have e5 : a'.eval (.tmp 5) = .int .i64 0 := (hq 5 (by kernel_rfl)).trans rfl
      clear hd hq
      refine op_value (wanted_on _ a' 7 59 true (by rfl) (by rfl) hg) (v := .int .i64 0) (w'' := w') ?_ (hK _ _ hI (fun _ _ h => h) rfl)
      clear hK
      simp only [execOp, e5]
      have f5 : a'.tmps[5]?.getD undef = .int .i64 0 := (Array.getD_eq_getD_getElem? ..).symm.trans e5
      clear e5
      first | rfl | (go_simp <;> exact IntWalk.i64_in _ (by omega))
    · intro a' w' K hI hd hq hK
      have hg := hd 7 59 (by kernel_rfl)
      have e60 : a'.eval (.tmp 60) = .int .i64 0 := (hd 8 60 (by kernel_rfl))
      clear hd hq
      refine op_value (wanted_on _ a' 7 59 true (by rfl) (by rfl) hg) (v := (.bool true)) (w'' := w') ?_ (hK _ _ hI (fun _ _ h => h) rfl)
      clear hK
      simp only [execOp, e60]
      have f60 : a'.tmps[60]?.getD undef = .int .i64 0 := (Array.getD_eq_getD_getElem? ..).symm.trans e60
      clear e60
      first | rfl | (go_simp <;> exact IntWalk.i64_in _ (by omega))
    · intro a' w' K hI hd hq hK
      have e59 : a'.eval (.tmp 59) = (.bool true) := (hd 7 59 (by kernel_rfl))
      have e61 : a'.eval (.tmp 61) = (.bool true) := (hd 9 61 (by kernel_rfl))
      clear hd hq
      refine op_value (wanted_free _ _ (by rfl)) (v := (.bool true)) (w'' := w') ?_ (hK _ _ hI (fun _ _ h => h) rfl)
      clear hK
      simp only [execOp, e59, e61]
      have f59 : a'.tmps[59]?.getD undef = (.bool true) := (Array.getD_eq_getD_getElem? ..).symm.trans e59
      have f61 : a'.tmps[61]?.getD undef = (.bool true) := (Array.getD_eq_getD_getElem? ..).symm.trans e61
      clear e59 e61
      first | rfl | (go_simp <;> exact IntWalk.i64_in _ (by omega))
    · intro a' w' K hI hd hq hK
      have e62 : a'.eval (.tmp 62) = (.bool true) := (hd 10 62 (by kernel_rfl))
      clear hd hq
      refine op_value (wanted_free _ _ (by rfl)) (v := (.bool true)) (w'' := w') ?_ (hK _ _ hI (fun _ _ h => h) rfl)
      clear hK
      simp only [execOp, e62]
      have f62 : a'.tmps[62]?.getD undef = (.bool true) := (Array.getD_eq_getD_getElem? ..).symm.trans e62
      clear e62
      first | rfl | (go_simp <;> exact IntWalk.i64_in _ (by omega))
    · intro a' w' K hI hd hq hK
      have hg := hd 11 63 (by kernel_rfl)
      have e7 : a'.eval (.tmp 7) = .int .i64 10 := (hq 7 (by kernel_rfl)).trans rfl
      clear hd hq
      refine op_value (wanted_on _ a' 11 63 true (by rfl) (by rfl) hg) (v := .int .i64 10) (w'' := w') ?_ (hK _ _ hI (fun _ _ h => h) rfl)
      clear hK
      simp only [execOp, e7]
      have f7 : a'.tmps[7]?.getD undef = .int .i64 10 := (Array.getD_eq_getD_getElem? ..).symm.trans e7
      clear e7
      first | rfl | (go_simp <;> exact IntWalk.i64_in _ (by omega))
    · intro a' w' K hI hd hq hK
      have hg := hd 11 63 (by kernel_rfl)
      have e64 : a'.eval (.tmp 64) = .int .i64 10 := (hd 12 64 (by kernel_rfl))
      clear hd hq
      refine op_value (wanted_on _ a' 11 63 true (by rfl) (by rfl) hg) (v := (.bool true)) (w'' := w') ?_ (hK _ _ hI (fun _ _ h => h) rfl)
      clear hK
      simp only [execOp, e64]
      have f64 : a'.tmps[64]?.getD undef = .int .i64 10 := (Array.getD_eq_getD_getElem? ..).symm.trans e64
      clear e64
      first | rfl | (go_simp <;> exact IntWalk.i64_in _ (by omega))
    · intro a' w' K hI hd hq hK
      have e63 : a'.eval (.tmp 63) = (.bool true) := (hd 11 63 (by kernel_rfl))
      have e65 : a'.eval (.tmp 65) = (.bool true) := (hd 13 65 (by kernel_rfl))
      clear hd hq
      refine op_value (wanted_free _ _ (by rfl)) (v := (.bool true)) (w'' := w') ?_ (hK _ _ hI (fun _ _ h => h) rfl)
      clear hK
      simp only [execOp, e63, e65]
      have f63 : a'.tmps[63]?.getD undef = (.bool true) := (Array.getD_eq_getD_getElem? ..).symm.trans e63
      have f65 : a'.tmps[65]?.getD undef = (.bool true) := (Array.getD_eq_getD_getElem? ..).symm.trans e65
      clear e63 e65
      first | rfl | (go_simp <;> exact IntWalk.i64_in _ (by omega))
    · intro a' w' K hI hd hq hK
      have e66 : a'.eval (.tmp 66) = (.bool true) := (hd 14 66 (by kernel_rfl))
      clear hd hq
      refine op_value (wanted_free _ _ (by rfl)) (v := (.bool true)) (w'' := w') ?_ (hK _ _ hI (fun _ _ h => h) rfl)
      clear hK
      simp only [execOp, e66]
      have f66 : a'.tmps[66]?.getD undef = (.bool true) := (Array.getD_eq_getD_getElem? ..).symm.trans e66
      clear e66
      first | rfl | (go_simp <;> exact IntWalk.i64_in _ (by omega))
    · intro a' w' K hI hd hq hK
      have hg := hd 15 67 (by kernel_rfl)
      have e8 : a'.eval (.tmp 8) = .int .i64 0 := (hq 8 (by kernel_rfl)).trans rfl
      clear hd hq
      refine op_value (wanted_on _ a' 15 67 true (by rfl) (by rfl) hg) (v := .int .i64 0) (w'' := w') ?_ (hK _ _ hI (fun _ _ h => h) rfl)
      clear hK
      simp only [execOp, e8]
      have f8 : a'.tmps[8]?.getD undef = .int .i64 0 := (Array.getD_eq_getD_getElem? ..).symm.trans e8
      clear e8
      first | rfl | (go_simp <;> exact IntWalk.i64_in _ (by omega))
    · intro a' w' K hI hd hq hK
      have hg := hd 15 67 (by kernel_rfl)
      have e68 : a'.eval (.tmp 68) = .int .i64 0 := (hd 16 68 (by kernel_rfl))
      clear hd hq
      refine op_value (wanted_on _ a' 15 67 true (by rfl) (by rfl) hg) (v := (.bool true)) (w'' := w') ?_ (hK _ _ hI (fun _ _ h => h) rfl)
      clear hK
      simp only [execOp, e68]
      have f68 : a'.tmps[68]?.getD undef = .int .i64 0 := (Array.getD_eq_getD_getElem? ..).symm.trans e68
      clear e68
      first | rfl | (go_simp <;> exact IntWalk.i64_in _ (by omega))
    · intro a' w' K hI hd hq hK
      have e67 : a'.eval (.tmp 67) = (.bool true) := (hd 15 67 (by kernel_rfl))
      have e69 : a'.eval (.tmp 69) = (.bool true) := (hd 17 69 (by kernel_rfl))
      clear hd hq
      refine op_value (wanted_free _ _ (by rfl)) (v := (.bool true)) (w'' := w') ?_ (hK _ _ hI (fun _ _ h => h) rfl)
      clear hK
      simp only [execOp, e67, e69]
      have f67 : a'.tmps[67]?.getD undef = (.bool true) := (Array.getD_eq_getD_getElem? ..).symm.trans e67
      have f69 : a'.tmps[69]?.getD undef = (.bool true) := (Array.getD_eq_getD_getElem? ..).symm.trans e69
      clear e67 e69
      first | rfl | (go_simp <;> exact IntWalk.i64_in _ (by omega))
    · intro a' w' K hI hd hq hK
      have e70 : a'.eval (.tmp 70) = (.bool true) := (hd 18 70 (by kernel_rfl))
      clear hd hq
      refine op_value (wanted_free _ _ (by rfl)) (v := (.bool true)) (w'' := w') ?_ (hK _ _ hI (fun _ _ h => h) rfl)
      clear hK
      simp only [execOp, e70]
      have f70 : a'.tmps[70]?.getD undef = (.bool true) := (Array.getD_eq_getD_getElem? ..).symm.trans e70
      clear e70
      first | rfl | (go_simp <;> exact IntWalk.i64_in _ (by omega))
    · intro a' w' K hI hd hq hK
      have hg := hd 19 71 (by kernel_rfl)
      have e10 : a'.eval (.tmp 10) = .int .i64 12 := (hq 10 (by kernel_rfl)).trans rfl
      clear hd hq
      refine op_value (wanted_on _ a' 19 71 true (by rfl) (by rfl) hg) (v := .int .i64 12) (w'' := w') ?_ (hK _ _ hI (fun _ _ h => h) rfl)
      clear hK
      simp only [execOp, e10]
      have f10 : a'.tmps[10]?.getD undef = .int .i64 12 := (Array.getD_eq_getD_getElem? ..).symm.trans e10
      clear e10
      first | rfl | (go_simp <;> exact IntWalk.i64_in _ (by omega))
    · intro a' w' K hI hd hq hK
      have hg := hd 19 71 (by kernel_rfl)
      have e72 : a'.eval (.tmp 72) = .int .i64 12 := (hd 20 72 (by kernel_rfl))
      clear hd hq
      refine op_value (wanted_on _ a' 19 71 true (by rfl) (by rfl) hg) (v := (.bool true)) (w'' := w') ?_ (hK _ _ hI (fun _ _ h => h) rfl)
      clear hK
      simp only [execOp, e72]
      have f72 : a'.tmps[72]?.getD undef = .int .i64 12 := (Array.getD_eq_getD_getElem? ..).symm.trans e72
      clear e72
      first | rfl | (go_simp <;> exact IntWalk.i64_in _ (by omega))
    · intro a' w' K hI hd hq hK
      have e71 : a'.eval (.tmp 71) = (.bool true) := (hd 19 71 (by kernel_rfl))
      have e73 : a'.eval (.tmp 73) = (.bool true) := (hd 21 73 (by kernel_rfl))
      clear hd hq
      refine op_value (wanted_free _ _ (by rfl)) (v := (.bool true)) (w'' := w') ?_ (hK _ _ hI (fun _ _ h => h) rfl)
      clear hK
      simp only [execOp, e71, e73]
      have f71 : a'.tmps[71]?.getD undef = (.bool true) := (Array.getD_eq_getD_getElem? ..).symm.trans e71
      have f73 : a'.tmps[73]?.getD undef = (.bool true) := (Array.getD_eq_getD_getElem? ..).symm.trans e73
      clear e71 e73
      first | rfl | (go_simp <;> exact IntWalk.i64_in _ (by omega))
    · intro a' w' K hI hd hq hK
      have e74 : a'.eval (.tmp 74) = (.bool true) := (hd 22 74 (by kernel_rfl))
      clear hd hq
      refine op_value (wanted_free _ _ (by rfl)) (v := (.bool true)) (w'' := w') ?_ (hK _ _ hI (fun _ _ h => h) rfl)
      clear hK
      simp only [execOp, e74]
      have f74 : a'.tmps[74]?.getD undef = (.bool true) := (Array.getD_eq_getD_getElem? ..).symm.trans e74
      clear e74
      first | rfl | (go_simp <;> exact IntWalk.i64_in _ (by omega))
    · intro a' w' K hI hd hq hK
      have hg := hd 23 75 (by kernel_rfl)
      have e11 : a'.eval (.tmp 11) = .int .i64 41 := (hq 11 (by kernel_rfl)).trans rfl
      clear hd hq
      refine op_value (wanted_on _ a' 23 75 true (by rfl) (by rfl) hg) (v := .int .i64 41) (w'' := w') ?_ (hK _ _ hI (fun _ _ h => h) rfl)
      clear hK
      simp only [execOp, e11]
      have f11 : a'.tmps[11]?.getD undef = .int .i64 41 := (Array.getD_eq_getD_getElem? ..).symm.trans e11
      clear e11
      first | rfl | (go_simp <;> exact IntWalk.i64_in _ (by omega))
    · intro a' w' K hI hd hq hK
      have hg := hd 23 75 (by kernel_rfl)
      have e76 : a'.eval (.tmp 76) = .int .i64 41 := (hd 24 76 (by kernel_rfl))
      clear hd hq
      refine op_value (wanted_on _ a' 23 75 true (by rfl) (by rfl) hg) (v := (.bool true)) (w'' := w') ?_ (hK _ _ hI (fun _ _ h => h) rfl)
      clear hK
      simp only [execOp, e76]
      have f76 : a'.tmps[76]?.getD undef = .int .i64 41 := (Array.getD_eq_getD_getElem? ..).symm.trans e76
      clear e76
      first | rfl | (go_simp <;> exact IntWalk.i64_in _ (by omega))
    · intro a' w' K hI hd hq hK
      have e75 : a'.eval (.tmp 75) = (.bool true) := (hd 23 75 (by kernel_rfl))
      have e77 : a'.eval (.tmp 77) = (.bool true) := (hd 25 77 (by kernel_rfl))
      clear hd hq
      refine op_value (wanted_free _ _ (by rfl)) (v := (.bool true)) (w'' := w') ?_ (hK _ _ hI (fun _ _ h => h) rfl)
      clear hK
      simp only [execOp, e75, e77]
      have f75 : a'.tmps[75]?.getD undef = (.bool true) := (Array.getD_eq_getD_getElem? ..).symm.trans e75
      have f77 : a'.tmps[77]?.getD undef = (.bool true) := (Array.getD_eq_getD_getElem? ..).symm.trans e77
      clear e75 e77
      first | rfl | (go_simp <;> exact IntWalk.i64_in _ (by omega))
    · intro a' w' K hI hd hq hK
      have e78 : a'.eval (.tmp 78) = (.bool true) := (hd 26 78 (by kernel_rfl))
      clear hd hq
      refine op_value (wanted_free _ _ (by rfl)) (v := (.bool true)) (w'' := w') ?_ (hK _ _ hI (fun _ _ h => h) rfl)
      clear hK
      simp only [execOp, e78]
      have f78 : a'.tmps[78]?.getD undef = (.bool true) := (Array.getD_eq_getD_getElem? ..).symm.trans e78
      clear e78
      first | rfl | (go_simp <;> exact IntWalk.i64_in _ (by omega))
    · intro a' w' K hI hd hq hK
      have hg := hd 27 79 (by kernel_rfl)
      have e12 : a'.eval (.tmp 12) = .slice A9 3 c9 := (hq 12 (by kernel_rfl)).trans rfl
      clear hd hq
      refine op_value (wanted_on _ a' 27 79 true (by rfl) (by rfl) hg) (v := .slice A9 3 c9) (w'' := w') ?_ (hK _ _ hI (fun _ _ h => h) rfl)
      clear hK
      simp only [execOp, e12]
      have f12 : a'.tmps[12]?.getD undef = .slice A9 3 c9 := (Array.getD_eq_getD_getElem? ..).symm.trans e12
      clear e12
      first | rfl | (go_simp <;> exact IntWalk.i64_in _ (by omega))
    · intro a' w' K hI hd hq hK
      have hg := hd 27 79 (by kernel_rfl)
      have e80 : a'.eval (.tmp 80) = .slice A9 3 c9 := (hd 28 80 (by kernel_rfl))
      clear hd hq
      refine op_value (wanted_on _ a' 27 79 true (by rfl) (by rfl) hg) (v := .int .i64 3) (w'' := w') ?_ (hK _ _ hI (fun _ _ h => h) rfl)
      clear hK
      simp only [execOp, e80]
      have f80 : a'.tmps[80]?.getD undef = .slice A9 3 c9 := (Array.getD_eq_getD_getElem? ..).symm.trans e80
      clear e80
      first | rfl | (go_simp <;> exact IntWalk.i64_in _ (by omega))
    · intro a' w' K hI hd hq hK
      have hg := hd 27 79 (by kernel_rfl)
      have e81 : a'.eval (.tmp 81) = .int .i64 3 := (hd 29 81 (by kernel_rfl))
      clear hd hq
      refine op_value (wanted_on _ a' 27 79 true (by rfl) (by rfl) hg) (v := (.bool true)) (w'' := w') ?_ (hK _ _ hI (fun _ _ h => h) rfl)
      clear hK
      simp only [execOp, e81]
      have f81 : a'.tmps[81]?.getD undef = .int .i64 3 := (Array.getD_eq_getD_getElem? ..).symm.trans e81
      clear e81
      first | rfl | (go_simp <;> exact IntWalk.i64_in _ (by omega))
    · intro a' w' K hI hd hq hK
      have e79 : a'.eval (.tmp 79) = (.bool true) := (hd 27 79 (by kernel_rfl))
      have e82 : a'.eval (.tmp 82) = (.bool true) := (hd 30 82 (by kernel_rfl))
      clear hd hq
      refine op_value (wanted_free _ _ (by rfl)) (v := (.bool true)) (w'' := w') ?_ (hK _ _ hI (fun _ _ h => h) rfl)
      clear hK
      simp only [execOp, e79, e82]
      have f79 : a'.tmps[79]?.getD undef = (.bool true) := (Array.getD_eq_getD_getElem? ..).symm.trans e79
      have f82 : a'.tmps[82]?.getD undef = (.bool true) := (Array.getD_eq_getD_getElem? ..).symm.trans e82
      clear e79 e82
      first | rfl | (go_simp <;> exact IntWalk.i64_in _ (by omega))
    · intro a' w' K hI hd hq hK
      have e83 : a'.eval (.tmp 83) = (.bool true) := (hd 31 83 (by kernel_rfl))
      clear hd hq
      refine op_value (wanted_free _ _ (by rfl)) (v := (.bool true)) (w'' := w') ?_ (hK _ _ hI (fun _ _ h => h) rfl)
      clear hK
      simp only [execOp, e83]
      have f83 : a'.tmps[83]?.getD undef = (.bool true) := (Array.getD_eq_getD_getElem? ..).symm.trans e83
      clear e83
      first | rfl | (go_simp <;> exact IntWalk.i64_in _ (by omega))
    · intro a' w' K hI hd hq hK
      have hg := hd 32 84 (by kernel_rfl)
      have e13 : a'.eval (.tmp 13) = .int .i64 0 := (hq 13 (by kernel_rfl)).trans rfl
      clear hd hq
      refine op_value (wanted_on _ a' 32 84 true (by rfl) (by rfl) hg) (v := .int .i64 0) (w'' := w') ?_ (hK _ _ hI (fun _ _ h => h) rfl)
      clear hK
      simp only [execOp, e13]
      have f13 : a'.tmps[13]?.getD undef = .int .i64 0 := (Array.getD_eq_getD_getElem? ..).symm.trans e13
      clear e13
      first | rfl | (go_simp <;> exact IntWalk.i64_in _ (by omega))
    · intro a' w' K hI hd hq hK
      have hg := hd 32 84 (by kernel_rfl)
      have e85 : a'.eval (.tmp 85) = .int .i64 0 := (hd 33 85 (by kernel_rfl))
      clear hd hq
      refine op_value (wanted_on _ a' 32 84 true (by rfl) (by rfl) hg) (v := (.bool true)) (w'' := w') ?_ (hK _ _ hI (fun _ _ h => h) rfl)
      clear hK
      simp only [execOp, e85]
      have f85 : a'.tmps[85]?.getD undef = .int .i64 0 := (Array.getD_eq_getD_getElem? ..).symm.trans e85
      clear e85
      first | rfl | (go_simp <;> exact IntWalk.i64_in _ (by omega))
    · intro a' w' K hI hd hq hK
      have e84 : a'.eval (.tmp 84) = (.bool true) := (hd 32 84 (by kernel_rfl))
      have e86 : a'.eval (.tmp 86) = (.bool true) := (hd 34 86 (by kernel_rfl))
      clear hd hq
      refine op_value (wanted_free _ _ (by rfl)) (v := (.bool true)) (w'' := w') ?_ (hK _ _ hI (fun _ _ h => h) rfl)
      clear hK
      simp only [execOp, e84, e86]
      have f84 : a'.tmps[84]?.getD undef = (.bool true) := (Array.getD_eq_getD_getElem? ..).symm.trans e84
      have f86 : a'.tmps[86]?.getD undef = (.bool true) := (Array.getD_eq_getD_getElem? ..).symm.trans e86
      clear e84 e86
      first | rfl | (go_simp <;> exact IntWalk.i64_in _ (by omega))
    · intro a' w' K hI hd hq hK
      have e87 : a'.eval (.tmp 87) = (.bool true) := (hd 35 87 (by kernel_rfl))
      clear hd hq
      refine op_value (wanted_free _ _ (by rfl)) (v := (.bool true)) (w'' := w') ?_ (hK _ _ hI (fun _ _ h => h) rfl)
      clear hK
      simp only [execOp, e87]
      have f87 : a'.tmps[87]?.getD undef = (.bool true) := (Array.getD_eq_getD_getElem? ..).symm.trans e87
      clear e87
      first | rfl | (go_simp <;> exact IntWalk.i64_in _ (by omega))
    · intro a' w' K hI hd hq hK
      have hg := hd 36 88 (by kernel_rfl)
      have e1 : a'.eval (.tmp 1) = .slice (some ⟨ga, 0, none⟩) 3 ca := (hq 1 (by kernel_rfl)).trans rfl
      clear hd hq
      refine op_value (wanted_on _ a' 36 88 true (by rfl) (by rfl) hg) (v := .slice (some ⟨ga, 0, none⟩) 3 ca) (w'' := w') ?_ (hK _ _ hI (fun _ _ h => h) rfl)
      clear hK
      simp only [execOp, e1]
      have f1 : a'.tmps[1]?.getD undef = .slice (some ⟨ga, 0, none⟩) 3 ca := (Array.getD_eq_getD_getElem? ..).symm.trans e1
      clear e1
      first | rfl | (go_simp <;> exact IntWalk.i64_in _ (by omega))
    · intro a' w' K hI hd hq hK
      have hg := hd 36 88 (by kernel_rfl)
      have e89 : a'.eval (.tmp 89) = .slice (some ⟨ga, 0, none⟩) 3 ca := (hd 37 89 (by kernel_rfl))
      clear hd hq
      refine op_value (wanted_on _ a' 36 88 true (by rfl) (by rfl) hg) (v := .pointer (some ⟨ga, 0, none⟩)) (w'' := w') ?_ (hK _ _ hI (fun _ _ h => h) rfl)
      clear hK
      simp only [execOp, e89]
      have f89 : a'.tmps[89]?.getD undef = .slice (some ⟨ga, 0, none⟩) 3 ca := (Array.getD_eq_getD_getElem? ..).symm.trans e89
      clear e89
      first | rfl | (go_simp <;> exact IntWalk.i64_in _ (by omega))
    · intro a' w' K hI hd hq hK
      have hg := hd 36 88 (by kernel_rfl)
      have e90 : a'.eval (.tmp 90) = .pointer (some ⟨ga, 0, none⟩) := (hd 38 90 (by kernel_rfl))
      clear hd hq
      refine op_value (wanted_on _ a' 36 88 true (by rfl) (by rfl) hg) (v := .pointer (some ⟨ga, 1, none⟩)) (w'' := w') ?_ (hK _ _ hI (fun _ _ h => h) rfl)
      clear hK
      simp only [execOp, e90]
      have f90 : a'.tmps[90]?.getD undef = .pointer (some ⟨ga, 0, none⟩) := (Array.getD_eq_getD_getElem? ..).symm.trans e90
      clear e90
      first | rfl | (go_simp <;> exact IntWalk.i64_in _ (by omega))
    · intro a' w' K hI hd hq hK
      have hg := hd 36 88 (by kernel_rfl)
      have e91 : a'.eval (.tmp 91) = .pointer (some ⟨ga, 1, none⟩) := (hd 39 91 (by kernel_rfl))
      clear hd hq
      refine op_value (wanted_on _ a' 36 88 true (by rfl) (by rfl) hg) (v := .agg hc1) (w'' := w') ?_ (hK _ _ hI (fun _ _ h => h) rfl)
      rw [EHC1.out]
      simp only [execOp, e91, Instr.loadAt, Instr.sureAddr, Sem.run_bind, Sem.run_pure, Result.andThen_ok, run_loadVar_mid w' ga 1 28 (bv h1) _ (HRH.out _ hI.1) Try.underlying28 rfl (by rw [bv_length, HL1.out]; exact info72)]
    · intro a' w' K hI hd hq hK
      have hg := hd 36 88 (by kernel_rfl)
      have e15 : a'.eval (.tmp 15) = .pointer (some ⟨gz, 0, none⟩) := (hq 15 (by kernel_rfl)).trans rfl
      clear hd hq
      refine op_value (wanted_on _ a' 36 88 true (by rfl) (by rfl) hg) (v := .agg z32) (w'' := w') ?_ (hK _ _ hI (fun _ _ h => h) rfl)
      simp only [execOp, e15, Instr.loadAt, Instr.sureAddr, Sem.run_bind, Sem.run_pure, Result.andThen_ok, run_loadVar_row w' gz 28 28 z32 (0, 0) _ (HRZ.out _ hI.1) Try.underlying28 rfl HZS.out]
    · intro a' w' K hI hd hq hK
      have hg := hd 36 88 (by kernel_rfl)
      have e93 : a'.eval (.tmp 93) = .agg z32 := (hd 41 93 (by kernel_rfl))
      clear hd hq
      refine op_call #[.agg z32, .string (strB [97])] (wanted_on _ a' 36 88 true (by rfl) (by rfl) hg) rfl Try.func53 (by kernel_rfl) rfl (by simp [e93]; rfl) ?_
      rw [HZ32.out]
      refine (refNext_any hd0 (strB [97]) w' (by simp [hd0]) (by rw [strB_size]; simp)).mono ?_
      rw [strB_toList, HN1.out, ← EHC1.out]
      rintro e w6 ⟨rfl, hb⟩
      refine ⟨_, rfl, hK _ _ ⟨below_below hI.1 hI.1.size hb, below_below hI.2 hI.2.size hb⟩ (fun j u => by match j with | 58 => exact fun ⟨g, c, h1, h2⟩ => ⟨g, c, h1, cell_below hb h2⟩ | 59 => exact fun ⟨g, h1, h2⟩ => ⟨g, h1, cell_below hb h2⟩ | 0 | 1 | 2 | 3 | 4 | 5 | 6 | 7 | 8 | 9 | 10 | 11 | 12 | 13 | 14 | 15 | 16 | 17 | 18 | 19 | 20 | 21 | 22 | 23 | 24 | 25 | 26 | 27 | 28 | 29 | 30 | 31 | 32 | 33 | 34 | 35 | 36 | 37 | 38 | 39 | 40 | 41 | 42 | 43 | 44 | 45 | 46 | 47 | 48 | 49 | 50 | 51 | 52 | 53 | 54 | 55 | 56 | 57 | 60 | 61 | 62 | 63 | 64 | 65 | 66 => exact fun h => h | _ + 67 => exact fun _ => trivial) rfl⟩
    · intro a' w' K hI hd hq hK
      have hg := hd 36 88 (by kernel_rfl)
      have e92 : a'.eval (.tmp 92) = .agg hc1 := (hd 40 92 (by kernel_rfl))
      have e94 : a'.eval (.tmp 94) = .agg hc1 := (hd 42 94 (by kernel_rfl))
      clear hd hq
      refine op_value (wanted_on _ a' 36 88 true (by rfl) (by rfl) hg) (v := .bool true) (w'' := w') ?_ (hK _ _ hI (fun _ _ h => h) rfl)
      simp only [execOp, e92, e94, Sem.run_bind, run_eqGuard_agg w' _ 28 _ _ _ _ (show Try.prog.eqGuardType Try.prog.depth 28 = false by kernel_rfl), run_eql_struct, HEQ.out w', Result.andThen_ok, Sem.run_pure]
    · intro a' w' K hI hd hq hK
      have e88 : a'.eval (.tmp 88) = (.bool true) := (hd 36 88 (by kernel_rfl))
      have e95 : a'.eval (.tmp 95) = .bool true := (hd 43 95 (by kernel_rfl))
      clear hd hq
      refine op_value (wanted_free _ _ (by rfl)) (v := (.bool true)) (w'' := w') ?_ (hK _ _ hI (fun _ _ h => h) rfl)
      clear hK
      simp only [execOp, e88, e95]
      have f88 : a'.tmps[88]?.getD undef = (.bool true) := (Array.getD_eq_getD_getElem? ..).symm.trans e88
      have f95 : a'.tmps[95]?.getD undef = .bool true := (Array.getD_eq_getD_getElem? ..).symm.trans e95
      clear e88 e95
      first | rfl | (go_simp <;> exact IntWalk.i64_in _ (by omega))
    · intro a' w' K hI hd hq hK
      have e96 : a'.eval (.tmp 96) = (.bool true) := (hd 44 96 (by kernel_rfl))
      clear hd hq
      refine op_value (wanted_free _ _ (by rfl)) (v := (.bool true)) (w'' := w') ?_ (hK _ _ hI (fun _ _ h => h) rfl)
      clear hK
      simp only [execOp, e96]
      have f96 : a'.tmps[96]?.getD undef = (.bool true) := (Array.getD_eq_getD_getElem? ..).symm.trans e96
      clear e96
      first | rfl | (go_simp <;> exact IntWalk.i64_in _ (by omega))
    · intro a' w' K hI hd hq hK
      have hg := hd 45 97 (by kernel_rfl)
      clear hd hq
      refine op_call #[.slice none 0 0] (wanted_on _ a' 45 97 true (by rfl) (by rfl) hg) rfl Try.func18 (by kernel_rfl) rfl (by simp [Act.eval]) ?_
      refine (make_any none 0 0 [] w' rfl (by omega) (by simp) (RC.nil _ _)).mono ?_
      rintro e w6 ⟨v6, rfl, ho, hb⟩
      obtain ⟨A6, c6, rfl, _⟩ := own_slice ho
      refine ⟨_, rfl, hK _ _ ⟨below_below hI.1 hI.1.size hb, below_below hI.2 hI.2.size hb⟩ (fun j u => by match j with | 58 => exact fun ⟨g, c, h1, h2⟩ => ⟨g, c, h1, cell_below hb h2⟩ | 59 => exact fun ⟨g, h1, h2⟩ => ⟨g, h1, cell_below hb h2⟩ | 0 | 1 | 2 | 3 | 4 | 5 | 6 | 7 | 8 | 9 | 10 | 11 | 12 | 13 | 14 | 15 | 16 | 17 | 18 | 19 | 20 | 21 | 22 | 23 | 24 | 25 | 26 | 27 | 28 | 29 | 30 | 31 | 32 | 33 | 34 | 35 | 36 | 37 | 38 | 39 | 40 | 41 | 42 | 43 | 44 | 45 | 46 | 47 | 48 | 49 | 50 | 51 | 52 | 53 | 54 | 55 | 56 | 57 | 60 | 61 | 62 | 63 | 64 | 65 | 66 => exact fun h => h | _ + 67 => exact fun _ => trivial) ⟨A6, c6, rfl⟩⟩
    · intro a' w' K hI hd hq hK
      have hg := hd 45 97 (by kernel_rfl)
      have e98 := hd 46 98 (by kernel_rfl)
      clear hd hq
      obtain ⟨A6, c6, e98'⟩ := (show ∃ A c, a'.eval (.tmp 98) = .slice A 0 c from e98)
      refine op_value (wanted_on _ a' 45 97 true (by rfl) (by rfl) hg) (v := .int .i64 0) (w'' := w') ?_ (hK _ _ hI (fun _ _ h => h) rfl)
      clear hK
      simp only [execOp]
      have f98 : a'.tmps[98]?.getD undef = .slice A6 0 c6 := (Array.getD_eq_getD_getElem? ..).symm.trans e98'
      clear e98 e98'
      go_simp
    · intro a' w' K hI hd hq hK
      have hg := hd 45 97 (by kernel_rfl)
      have e99 : a'.eval (.tmp 99) = .int .i64 0 := (hd 47 99 (by kernel_rfl))
      clear hd hq
      refine op_value (wanted_on _ a' 45 97 true (by rfl) (by rfl) hg) (v := (.bool true)) (w'' := w') ?_ (hK _ _ hI (fun _ _ h => h) rfl)
      clear hK
      simp only [execOp, e99]
      have f99 : a'.tmps[99]?.getD undef = .int .i64 0 := (Array.getD_eq_getD_getElem? ..).symm.trans e99
      clear e99
      first | rfl | (go_simp <;> exact IntWalk.i64_in _ (by omega))
    · intro a' w' K hI hd hq hK
      have e97 : a'.eval (.tmp 97) = (.bool true) := (hd 45 97 (by kernel_rfl))
      have e100 : a'.eval (.tmp 100) = (.bool true) := (hd 48 100 (by kernel_rfl))
      clear hd hq
      refine op_value (wanted_free _ _ (by rfl)) (v := (.bool true)) (w'' := w') ?_ (hK _ _ hI (fun _ _ h => h) rfl)
      clear hK
      simp only [execOp, e97, e100]
      have f97 : a'.tmps[97]?.getD undef = (.bool true) := (Array.getD_eq_getD_getElem? ..).symm.trans e97
      have f100 : a'.tmps[100]?.getD undef = (.bool true) := (Array.getD_eq_getD_getElem? ..).symm.trans e100
      clear e97 e100
      first | rfl | (go_simp <;> exact IntWalk.i64_in _ (by omega))
    · intro a' w' K hI hd hq hK
      have e101 : a'.eval (.tmp 101) = (.bool true) := (hd 49 101 (by kernel_rfl))
      clear hd hq
      refine op_value (wanted_free _ _ (by rfl)) (v := (.bool true)) (w'' := w') ?_ (hK _ _ hI (fun _ _ h => h) rfl)
      clear hK
      simp only [execOp, e101]
      have f101 : a'.tmps[101]?.getD undef = (.bool true) := (Array.getD_eq_getD_getElem? ..).symm.trans e101
      clear e101
      first | rfl | (go_simp <;> exact IntWalk.i64_in _ (by omega))
    · intro a' w' K hI hd hq hK
      have hg := hd 50 102 (by kernel_rfl)
      have e1 : a'.eval (.tmp 1) = .slice (some ⟨ga, 0, none⟩) 3 ca := (hq 1 (by kernel_rfl)).trans rfl
      clear hd hq
      refine op_value (wanted_on _ a' 50 102 true (by rfl) (by rfl) hg) (v := .slice (some ⟨ga, 0, none⟩) 3 ca) (w'' := w') ?_ (hK _ _ hI (fun _ _ h => h) rfl)
      clear hK
      simp only [execOp, e1]
      have f1 : a'.tmps[1]?.getD undef = .slice (some ⟨ga, 0, none⟩) 3 ca := (Array.getD_eq_getD_getElem? ..).symm.trans e1
      clear e1
      first | rfl | (go_simp <;> exact IntWalk.i64_in _ (by omega))
    · intro a' w' K hI hd hq hK
      have hg := hd 50 102 (by kernel_rfl)
      have e103 : a'.eval (.tmp 103) = .slice (some ⟨ga, 0, none⟩) 3 ca := (hd 51 103 (by kernel_rfl))
      clear hd hq
      refine op_call #[.slice (some ⟨ga, 0, none⟩) 3 ca] (wanted_on _ a' 50 102 true (by rfl) (by rfl) hg) rfl Try.func21 (by kernel_rfl) rfl (by simp [e103]) ?_
      refine (chainTexts_any (some ⟨ga, 0, none⟩) 3 ca M w' HML.out (by omega) HMH.out (HRA.out _ hI.1)).mono ?_
      rw [HML.out]
      rintro e w6 ⟨v6, rfl, ho, hb⟩
      obtain ⟨A6, c6, rfl, _⟩ := own_slice ho
      refine ⟨_, rfl, hK _ _ ⟨below_below hI.1 hI.1.size hb, below_below hI.2 hI.2.size hb⟩ (fun j u => by match j with | 58 => exact fun ⟨g, c, h1, h2⟩ => ⟨g, c, h1, cell_below hb h2⟩ | 59 => exact fun ⟨g, h1, h2⟩ => ⟨g, h1, cell_below hb h2⟩ | 0 | 1 | 2 | 3 | 4 | 5 | 6 | 7 | 8 | 9 | 10 | 11 | 12 | 13 | 14 | 15 | 16 | 17 | 18 | 19 | 20 | 21 | 22 | 23 | 24 | 25 | 26 | 27 | 28 | 29 | 30 | 31 | 32 | 33 | 34 | 35 | 36 | 37 | 38 | 39 | 40 | 41 | 42 | 43 | 44 | 45 | 46 | 47 | 48 | 49 | 50 | 51 | 52 | 53 | 54 | 55 | 56 | 57 | 60 | 61 | 62 | 63 | 64 | 65 | 66 => exact fun h => h | _ + 67 => exact fun _ => trivial) ⟨A6, c6, rfl⟩⟩
    · intro a' w' K hI hd hq hK
      have hg := hd 50 102 (by kernel_rfl)
      have e104 := hd 52 104 (by kernel_rfl)
      clear hd hq
      obtain ⟨A6, c6, e104'⟩ := (show ∃ A c, a'.eval (.tmp 104) = .slice A 3 c from e104)
      refine op_value (wanted_on _ a' 50 102 true (by rfl) (by rfl) hg) (v := .int .i64 3) (w'' := w') ?_ (hK _ _ hI (fun _ _ h => h) rfl)
      clear hK
      simp only [execOp]
      have f104 : a'.tmps[104]?.getD undef = .slice A6 3 c6 := (Array.getD_eq_getD_getElem? ..).symm.trans e104'
      clear e104 e104'
      go_simp
    · intro a' w' K hI hd hq hK
      have hg := hd 50 102 (by kernel_rfl)
      have e105 : a'.eval (.tmp 105) = .int .i64 3 := (hd 53 105 (by kernel_rfl))
      clear hd hq
      refine op_value (wanted_on _ a' 50 102 true (by rfl) (by rfl) hg) (v := (.bool true)) (w'' := w') ?_ (hK _ _ hI (fun _ _ h => h) rfl)
      clear hK
      simp only [execOp, e105]
      have f105 : a'.tmps[105]?.getD undef = .int .i64 3 := (Array.getD_eq_getD_getElem? ..).symm.trans e105
      clear e105
      first | rfl | (go_simp <;> exact IntWalk.i64_in _ (by omega))
    · intro a' w' K hI hd hq hK
      have e102 : a'.eval (.tmp 102) = (.bool true) := (hd 50 102 (by kernel_rfl))
      have e106 : a'.eval (.tmp 106) = (.bool true) := (hd 54 106 (by kernel_rfl))
      clear hd hq
      refine op_value (wanted_free _ _ (by rfl)) (v := (.bool true)) (w'' := w') ?_ (hK _ _ hI (fun _ _ h => h) rfl)
      clear hK
      simp only [execOp, e102, e106]
      have f102 : a'.tmps[102]?.getD undef = (.bool true) := (Array.getD_eq_getD_getElem? ..).symm.trans e102
      have f106 : a'.tmps[106]?.getD undef = (.bool true) := (Array.getD_eq_getD_getElem? ..).symm.trans e106
      clear e102 e106
      first | rfl | (go_simp <;> exact IntWalk.i64_in _ (by omega))
    · intro a' w' K hI hd hq hK
      have e107 : a'.eval (.tmp 107) = (.bool true) := (hd 55 107 (by kernel_rfl))
      clear hd hq
      refine op_value (wanted_free _ _ (by rfl)) (v := (.bool true)) (w'' := w') ?_ (hK _ _ hI (fun _ _ h => h) rfl)
      clear hK
      simp only [execOp, e107]
      have f107 : a'.tmps[107]?.getD undef = (.bool true) := (Array.getD_eq_getD_getElem? ..).symm.trans e107
      clear e107
      first | rfl | (go_simp <;> exact IntWalk.i64_in _ (by omega))
    · intro a' w' K hI hd hq hK
      have hg := hd 56 108 (by kernel_rfl)
      have e1 : a'.eval (.tmp 1) = .slice (some ⟨ga, 0, none⟩) 3 ca := (hq 1 (by kernel_rfl)).trans rfl
      clear hd hq
      refine op_value (wanted_on _ a' 56 108 true (by rfl) (by rfl) hg) (v := .slice (some ⟨ga, 0, none⟩) 3 ca) (w'' := w') ?_ (hK _ _ hI (fun _ _ h => h) rfl)
      clear hK
      simp only [execOp, e1]
      have f1 : a'.tmps[1]?.getD undef = .slice (some ⟨ga, 0, none⟩) 3 ca := (Array.getD_eq_getD_getElem? ..).symm.trans e1
      clear e1
      first | rfl | (go_simp <;> exact IntWalk.i64_in _ (by omega))
    · intro a' w' K hI hd hq hK
      have hg := hd 56 108 (by kernel_rfl)
      have e109 : a'.eval (.tmp 109) = .slice (some ⟨ga, 0, none⟩) 3 ca := (hd 57 109 (by kernel_rfl))
      clear hd hq
      refine op_call #[.slice (some ⟨ga, 0, none⟩) 3 ca] (wanted_on _ a' 56 108 true (by rfl) (by rfl) hg) rfl Try.func21 (by kernel_rfl) rfl (by simp [e109]) ?_
      refine (chainTexts_any (some ⟨ga, 0, none⟩) 3 ca M w' HML.out (by omega) HMH.out (HRA.out _ hI.1)).mono ?_
      rw [HT2.out, HML.out]
      rintro e w6 ⟨v6, rfl, ho, hb⟩
      obtain ⟨g6, c6, rfl, _, _⟩ := own_form ho (by omega)
      have hc6 : w6.cell? ⟨g6, 2, none⟩ = some (.string (strB [99])) := by rw [World.ownsRow.cellAt ho 2 (by omega)]; rfl
      refine ⟨_, rfl, hK _ _ ⟨below_below hI.1 hI.1.size hb, below_below hI.2 hI.2.size hb⟩ (fun j u => by match j with | 58 => exact fun ⟨g, c, h1, h2⟩ => ⟨g, c, h1, cell_below hb h2⟩ | 59 => exact fun ⟨g, h1, h2⟩ => ⟨g, h1, cell_below hb h2⟩ | 0 | 1 | 2 | 3 | 4 | 5 | 6 | 7 | 8 | 9 | 10 | 11 | 12 | 13 | 14 | 15 | 16 | 17 | 18 | 19 | 20 | 21 | 22 | 23 | 24 | 25 | 26 | 27 | 28 | 29 | 30 | 31 | 32 | 33 | 34 | 35 | 36 | 37 | 38 | 39 | 40 | 41 | 42 | 43 | 44 | 45 | 46 | 47 | 48 | 49 | 50 | 51 | 52 | 53 | 54 | 55 | 56 | 57 | 60 | 61 | 62 | 63 | 64 | 65 | 66 => exact fun h => h | _ + 67 => exact fun _ => trivial) ⟨g6, c6, rfl, hc6⟩⟩
    · intro a' w' K hI hd hq hK
      have hg := hd 56 108 (by kernel_rfl)
      have e110 := hd 58 110 (by kernel_rfl)
      clear hd hq
      obtain ⟨g6, c6, e110', hc6⟩ := (show ∃ g c, a'.eval (.tmp 110) = .slice (some ⟨g, 0, none⟩) 3 c ∧ w'.cell? ⟨g, 2, none⟩ = some (.string (strB [99])) from e110)
      refine op_value (wanted_on _ a' 56 108 true (by rfl) (by rfl) hg) (v := .pointer (some ⟨g6, 2, none⟩)) (w'' := w') ?_ (hK _ _ hI (fun _ _ h => h) ⟨g6, rfl, hc6⟩)
      clear hK
      simp only [execOp]
      have f110 : a'.tmps[110]?.getD undef = .slice (some ⟨g6, 0, none⟩) 3 c6 := (Array.getD_eq_getD_getElem? ..).symm.trans e110'
      clear e110 e110'
      go_simp
    · intro a' w' K hI hd hq hK
      have hg := hd 56 108 (by kernel_rfl)
      have e111 := hd 59 111 (by kernel_rfl)
      clear hd hq
      obtain ⟨g6, e111', hc6⟩ := (show ∃ g, a'.eval (.tmp 111) = .pointer (some ⟨g, 2, none⟩) ∧ w'.cell? ⟨g, 2, none⟩ = some (.string (strB [99])) from e111)
      refine op_value (wanted_on _ a' 56 108 true (by rfl) (by rfl) hg) (v := .string (strB [99])) (w'' := w') ?_ (hK _ _ hI (fun _ _ h => h) rfl)
      clear hK
      simp only [execOp]
      have f111 : a'.tmps[111]?.getD undef = .pointer (some ⟨g6, 2, none⟩) := (Array.getD_eq_getD_getElem? ..).symm.trans e111'
      clear e111 e111'
      go_simp
    · intro a' w' K hI hd hq hK
      have hg := hd 56 108 (by kernel_rfl)
      have e112 : a'.eval (.tmp 112) = .string (strB [99]) := (hd 60 112 (by kernel_rfl))
      clear hd hq
      have e112' : a'.eval (.tmp 112) = .string { data := #[99] } := e112
      refine op_value (wanted_on _ a' 56 108 true (by rfl) (by rfl) hg) (v := .bool true) (w'' := w') ?_ (hK _ _ hI (fun _ _ h => h) rfl)
      clear hK
      simp only [execOp]
      have f112 : a'.tmps[112]?.getD undef = .string { data := #[99] } := (Array.getD_eq_getD_getElem? ..).symm.trans e112'
      clear e112 e112'
      go_simp
    · intro a' w' K hI hd hq hK
      have e108 : a'.eval (.tmp 108) = (.bool true) := (hd 56 108 (by kernel_rfl))
      have e113 : a'.eval (.tmp 113) = .bool true := (hd 61 113 (by kernel_rfl))
      clear hd hq
      refine op_value (wanted_free _ _ (by rfl)) (v := (.bool true)) (w'' := w') ?_ (hK _ _ hI (fun _ _ h => h) rfl)
      clear hK
      simp only [execOp, e108, e113]
      have f108 : a'.tmps[108]?.getD undef = (.bool true) := (Array.getD_eq_getD_getElem? ..).symm.trans e108
      have f113 : a'.tmps[113]?.getD undef = .bool true := (Array.getD_eq_getD_getElem? ..).symm.trans e113
      clear e108 e113
      first | rfl | (go_simp <;> exact IntWalk.i64_in _ (by omega))
    · intro a' w' K hI hd hq hK
      have e114 : a'.eval (.tmp 114) = (.bool true) := (hd 62 114 (by kernel_rfl))
      clear hd hq
      refine op_value (wanted_free _ _ (by rfl)) (v := (.bool true)) (w'' := w') ?_ (hK _ _ hI (fun _ _ h => h) rfl)
      clear hK
      simp only [execOp, e114]
      have f114 : a'.tmps[114]?.getD undef = (.bool true) := (Array.getD_eq_getD_getElem? ..).symm.trans e114
      clear e114
      first | rfl | (go_simp <;> exact IntWalk.i64_in _ (by omega))
    · intro a' w' K hI hd hq hK
      have hg := hd 63 115 (by kernel_rfl)
      clear hd hq
      refine op_call #[] (wanted_on _ a' 63 115 true (by rfl) (by rfl) hg) rfl Try.func16 (by kernel_rfl) rfl (by simp) ?_
      refine (known19_any w').mono ?_
      rintro e w6 ⟨rfl, hb⟩
      refine ⟨_, rfl, hK _ _ ⟨below_below hI.1 hI.1.size hb, below_below hI.2 hI.2.size hb⟩ (fun j u => by match j with | 58 => exact fun ⟨g, c, h1, h2⟩ => ⟨g, c, h1, cell_below hb h2⟩ | 59 => exact fun ⟨g, h1, h2⟩ => ⟨g, h1, cell_below hb h2⟩ | 0 | 1 | 2 | 3 | 4 | 5 | 6 | 7 | 8 | 9 | 10 | 11 | 12 | 13 | 14 | 15 | 16 | 17 | 18 | 19 | 20 | 21 | 22 | 23 | 24 | 25 | 26 | 27 | 28 | 29 | 30 | 31 | 32 | 33 | 34 | 35 | 36 | 37 | 38 | 39 | 40 | 41 | 42 | 43 | 44 | 45 | 46 | 47 | 48 | 49 | 50 | 51 | 52 | 53 | 54 | 55 | 56 | 57 | 60 | 61 | 62 | 63 | 64 | 65 | 66 => exact fun h => h | _ + 67 => exact fun _ => trivial) rfl⟩
    · intro a' w' K hI hd hq hK
      have e115 : a'.eval (.tmp 115) = (.bool true) := (hd 63 115 (by kernel_rfl))
      have e116 : a'.eval (.tmp 116) = .bool true := (hd 64 116 (by kernel_rfl))
      clear hd hq
      refine op_value (wanted_free _ _ (by rfl)) (v := (.bool true)) (w'' := w') ?_ (hK _ _ hI (fun _ _ h => h) rfl)
      clear hK
      simp only [execOp, e115, e116]
      have f115 : a'.tmps[115]?.getD undef = (.bool true) := (Array.getD_eq_getD_getElem? ..).symm.trans e115
      have f116 : a'.tmps[116]?.getD undef = .bool true := (Array.getD_eq_getD_getElem? ..).symm.trans e116
      clear e115 e116
      first | rfl | (go_simp <;> exact IntWalk.i64_in _ (by omega))
    · intro a' w' K hI hd hq hK
      have e117 : a'.eval (.tmp 117) = (.bool true) := (hd 65 117 (by kernel_rfl))
      clear hd hq
      refine op_value (wanted_free _ _ (by rfl)) (v := (.bool true)) (w'' := w') ?_ (hK _ _ hI (fun _ _ h => h) rfl)
      clear hK
      simp only [execOp, e117]
      have f117 : a'.tmps[117]?.getD undef = (.bool true) := (Array.getD_eq_getD_getElem? ..).symm.trans e117
      clear e117
      first | rfl | (go_simp <;> exact IntWalk.i64_in _ (by omega))
  case fin11 =>
    rintro w' hI _ rfl _ rfl _ rfl _ rfl _ rfl _ rfl _ rfl _ rfl _ rfl _ rfl _ rfl _ rfl _ rfl _ rfl _ rfl _ rfl _ rfl _ rfl _ rfl _ rfl _ rfl _ rfl _ rfl _ rfl _ rfl _ rfl _ rfl _ rfl _ rfl _ rfl _ rfl _ rfl _ rfl _ rfl _ rfl _ rfl _ rfl _ rfl _ rfl _ rfl _ rfl _ rfl _ rfl _ rfl _ rfl _ rfl _ ⟨A46, c46, rfl⟩ _ rfl _ rfl _ rfl _ rfl _ rfl _ ⟨A52, c52, rfl⟩ _ rfl _ rfl _ rfl _ rfl _ rfl _ ⟨g58, c58, rfl, _⟩ _ ⟨g59, rfl, _⟩ _ rfl _ rfl _ rfl _ rfl _ rfl _ rfl _ rfl
    simp only [Act.put, List.setIfInBounds_toArray, List.set_cons_zero, List.set_cons_succ, FinGoal]
    go_wp2_with fail
    go_ret
    exact ⟨rfl, hI.2⟩

end Go.Proofs.Ythlbmjjodjepjaa
