/-
  The walk of the law ChainTurned.
-/
import Derived.Test.YthlbmjjodjepjaaKnown19
import Derived.Test.YthlbmjjodjepjaaWithin
set_option linter.unusedVariables false
set_option linter.unusedSimpArgs false
namespace Go.Proofs.Ythlbmjjodjepjaa
open Go.RowKit

theorem sv_set (F : List (List UInt8)) (k : Nat) (y : List UInt8) : (sv F).set k (.string (strB y)) = sv (F.set k y) := by
  simp [sv, List.map_set, strB]
theorem own_storeV {w : World} {B n g c : Nat} {xs : List Value} {e : TypeId} (h : w.ownsRow B e 1 (.slice (some ⟨g, 0, none⟩) n c) n xs) (k : Nat) (v : Value) :
    (w.setCell ⟨g, k, none⟩ v).ownsRow B e 1 (.slice (some ⟨g, 0, none⟩) n c) n (xs.set k v) := (h.stored k v).1

theorem below_drewN {B : Nat} {w w' : World} (h : Below B w w') (n : Nat) : Below B w (w'.drewN n) := ⟨h.os, h.tape, h.output, h.size, h.block⟩

set_option maxRecDepth 100000 in
set_option maxHeartbeats 16000000 in
theorem chainTurned_any (A : Option Addr) (n c : Nat) (L : List (List UInt8)) (at_ : Int) (st : ByteArray) (w : World) (hl : L.length = n) (hn : n ≤ 9223372036854775807) (hr : RS w A L) :
    Calls Try.prog 3 #[.slice A n c, .int .i64 at_, .string st] w fun e w' => e = .returned (.bool true) ∧ Below w.heap.size w w' := by
  subst hl
  have HL := Lib.hid hr
  clear hr
  obtain ⟨F, eF⟩ : ∃ F, F = fewOf L 8 := ⟨_, rfl⟩
  obtain ⟨N, eN⟩ : ∃ N, N = min 8 L.length := ⟨_, rfl⟩
  have hFl : F.length = N := by rw [eF, eN, fewOf_length]
  have hFs : ∀ x ∈ F, x.length ≤ 1000000 := fun x hx => by rw [eF] at hx; have := fewOf_small L 8 x hx; omega
  have hN : N ≤ 8 := by omega
  have EF := Lib.hid eF
  have EN := Lib.hid eN
  have HFL := Lib.hid hFl
  have HFS := Lib.hid hFs
  have HN := Lib.hid hN
  clear eF eN hFl hFs hN
  go_enter Try.func3, Try.ntmps3
  go_wp2_with fail
  refine (few19_any A L.length c L 8 w rfl (by omega) HL.out).mono ?_
  rw [← EF.out, ← EN.out]
  rintro e w1 ⟨v0, rfl, ho, hb⟩
  obtain ⟨A0, c0, rfl, _⟩ := own_slice ho
  have O1 := Lib.hid ho
  have B1 := Lib.hid hb
  clear ho hb
  by_cases hN0 : N = 0
  · have hz : ((N : Int) == 0) = true := by simp [hN0]
    clear hN0
    go_wp2_with fail
    refine (known19_any _).mono ?_
    rintro e w2 ⟨rfl, hb⟩
    go_wp2_with fail
    go_ret
    exact ⟨rfl, below_below B1.out B1.out.size hb⟩
  · have hz : ((N : Int) == 0) = false := by rw [beq_eq_false_iff_ne]; omega
    have HNP := Lib.hid (show 0 < N by omega)
    clear hN0
    go_wp2_with (at_builtin; refine append_any rfl _ _ 22 rfl w1.heap.size 9 (.string ⟨#[]⟩) 1 16 Try.underlying22 infoS rfl (by omega) (by omega) _ 0 [] rfl (World.ownsRow_lit w1 #[] 0 (Nat.le_refl _) (by simp [maxLen]) rfl) A0 N c0 (sv F) rfl ?c1 ?c2 (sv_one _) ?c3 ?c4 ?_)
    case c1 => rw [sv_length, HFL.out, Nat.mul_one]
    case c2 => exact (own_RC O1.out).below ((Below.refl _ _).alloc (Nat.le_refl _) _)
    case c3 => have := HN.out; omega
    case c4 => simp
    intro v8 w8 ho8 hg8 hat8
    have hB8 : Below w1.heap.size w1 w8 := ((Below.refl _ _).alloc (Nat.le_refl _) _).grown hg8 (by simp) (fun k hk => by simp [Value.ownBlock] at hk; omega)
    have ho8' : w8.ownsRow w1.heap.size 9 1 v8 N (sv F) := by simpa using ho8
    obtain ⟨gm, cm, rfl, hgm, hcm⟩ := own_form ho8' HNP.out
    have HO8 := Lib.hid ho8'
    have HB8 := Lib.hid hB8
    have HGM := Lib.hid hgm
    clear ho8 hg8 hat8 hB8 ho8' hcm hgm
    have hNP := HNP.out
    have hN8 := HN.out
    have hNi0 : (1 : Int) ≤ (N : Int) := by omega
    have hNi8 : (N : Int) ≤ 8 := by omega
    go_wp2_with fail
    refine (within_any at_ 0 ((N : Int) - 1) _ (by omega) (by omega) (by omega) (by omega)).mono ?_
    obtain ⟨k, hk⟩ : ∃ k : Nat, withinOf at_ 0 ((N : Int) - 1) = (k : Int) := ⟨(withinOf at_ 0 ((N : Int) - 1)).toNat, by have := withinOf_range at_ 0 ((N : Int) - 1) (by omega); omega⟩
    have hkN : k < N := by have := withinOf_range at_ 0 ((N : Int) - 1) (by omega); omega
    rw [hk]
    rintro e w8' ⟨rfl, rfl⟩
    have HKN := Lib.hid hkN
    clear hk hNP hN8 hkN hNi0 hNi8
    obtain ⟨mo, emo⟩ : ∃ mo, mo = st.data.toList := ⟨_, rfl⟩
    have EMO := Lib.hid (show st = strB mo by rw [emo, strB_data])
    clear emo
    obtain ⟨y, ey⟩ : ∃ y, y = mo.take 100 := ⟨_, rfl⟩
    have hfs : fewOf [mo] 1 = [y] := by rw [ey]; rfl
    have hyl : y.length ≤ 1000000 := by rw [ey, List.length_take]; omega
    have HFE := Lib.hid hfs
    have HYL := Lib.hid hyl
    clear ey hfs hyl
    go_wp2_with fail
    refine (few19_any (some ⟨w8.heap.size, 0, none⟩) 1 1 [mo] 1 _ rfl (by omega) (by rw [EMO.out]; exact RC_newL w8 [.string (strB mo)] 9)).mono ?_
    rw [HFE.out, show min 1 [mo].length = 1 from rfl]
    rintro e w9 ⟨v9, rfl, ho, hb⟩
    obtain ⟨g9, c9, rfl, _, _⟩ := own_form ho (by omega)
    have k9 : w9.cell? ⟨g9, 0, none⟩ = some (.string (strB y)) := by
      obtain ⟨ad, e7, hc7⟩ := own_RC ho (by simp [sv])
      cases e7
      have := hc7 0 _ rfl
      rwa [add_off] at this
    have hB89 : Below w8.heap.size w8 w9 := below_below ((Below.refl _ _).alloc (Nat.le_refl _) _) (by simp) hb
    have HO9 := Lib.hid (own_below HO8.out hB89)
    have HB9 := Lib.hid (below_below HB8.out HB8.out.size hB89)
    have hkl : k < (sv F).length := by rw [sv_length, HFL.out]; exact HKN.out
    have cm9 : w9.cell? ⟨gm, k, none⟩ = some (sv F)[k] := by
      obtain ⟨ad, e7, hc7⟩ := own_RC HO9.out (by omega)
      cases e7
      have := hc7 k _ (List.getElem?_eq_getElem hkl)
      rwa [add_off, Nat.zero_add] at this
    generalize (sv F)[k] = ov at cm9
    have fm9 := World.ownsRow.frozenAt HO9.out k
    have hk0 : (0 : Int) ≤ (k : Int) := by omega
    have hk1 : (k : Int) < (N : Int) := by have := HKN.out; omega
    clear ho hb hB89 HO8 HB8 hkl
    go_upto_region 7 with fail
    obtain ⟨w10, hw10⟩ : ∃ w10, w10 = w9.setCell ⟨gm, k, none⟩ (.string (strB y)) := ⟨_, rfl⟩
    rw [← hw10]
    obtain ⟨G, eG⟩ : ∃ G, G = F.set k y := ⟨_, rfl⟩
    have HO10 := Lib.hid (show w10.ownsRow w1.heap.size 9 1 (.slice (some ⟨gm, 0, none⟩) N cm) N (sv G) by rw [hw10, eG, ← sv_set]; exact own_storeV HO9.out k _)
    have HB10 := Lib.hid (show Below w1.heap.size w1 w10 by rw [hw10]; exact HB9.out.setCell HGM.out _)
    have HGL := Lib.hid (show G.length = N by rw [eG, List.length_set, HFL.out])
    have HGS := Lib.hid (show ∀ x ∈ G, x.length ≤ 1000000 by
      intro x hx
      rw [eG] at hx
      rcases List.mem_or_eq_of_mem_set hx with h | h
      · exact HFS.out x h
      · rw [h]; exact HYL.out)
    have EG := Lib.hid eG
    clear hw10 eG k9 cm9 fm9 HO9 HB9
    go_wp2_with fail
    refine (make_any A0 N c0 F w10 HFL.out (by have := HN.out; omega) HFS.out ((own_RC O1.out).below HB10.out)).mono ?_
    rw [HFL.out]
    rintro e w11 ⟨va, rfl, ho, hb⟩
    obtain ⟨Aa, ca, rfl, _⟩ := own_slice ho
    have RA11 := Lib.hid (own_RC ho)
    have HO11 := Lib.hid (own_below HO10.out hb)
    have HB11 := Lib.hid (below_below HB10.out HB10.out.size hb)
    clear ho hb HO10 HB10
    go_wp2_with fail
    refine (make_any (some ⟨gm, 0, none⟩) N cm G w11 HGL.out (by have := HN.out; omega) HGS.out (own_RC HO11.out)).mono ?_
    rw [HGL.out]
    rintro e w13 ⟨vb, rfl, ho, hb⟩
    obtain ⟨Ab, cb, rfl, _⟩ := own_slice ho
    have hRB := own_RC ho
    have hRA := RA11.out.below hb
    have hRG := (own_RC HO11.out).below hb
    have HB13 := Lib.hid (below_below HB11.out HB11.out.size hb)
    have hRF := (own_RC O1.out).below HB13.out
    have hMFl : (mkOf F).length = N := by rw [mkOf_length, HFL.out]
    have hMGl : (mkOf G).length = N := by rw [mkOf_length, HGL.out]
    have hMFh := mkOf_heads F
    have hMGh := mkOf_heads G
    have hp := HNP.out
    have hkk := HKN.out
    have hkF : k < F.length := by rw [HFL.out]; exact hkk
    have hkG : k < G.length := by rw [HGL.out]; exact hkk
    obtain ⟨ba, oa, rfl, _⟩ := hRA.parts (by rw [lv_length _ hMFh, hMFl]; omega)
    obtain ⟨bb, ob, rfl, _⟩ := hRB.parts (by rw [lv_length _ hMGh, hMGl]; omega)
    obtain ⟨b0, o0, rfl, _⟩ := hRF.parts (by rw [sv_length]; omega)
    have HRA := Lib.hid (show ∀ W, Below w13.heap.size w13 W → RC W (some ⟨ba, oa, none⟩) (lv (mkOf F)) from fun W h => hRA.below h)
    have HRB := Lib.hid (show ∀ W, Below w13.heap.size w13 W → RC W (some ⟨bb, ob, none⟩) (lv (mkOf G)) from fun W h => hRB.below h)
    obtain ⟨x, ex⟩ : ∃ x, x = F[k] := ⟨_, rfl⟩
    have hGk : G[k] = y := by simp [EG.out]
    have HLK := Lib.hid (show ∀ W, Below w13.heap.size w13 W → W.cell? ⟨b0, o0 + k, none⟩ = some (.string (strB x)) from fun W h => by
      obtain ⟨ad, e7, hc7⟩ := hRF.below h (by rw [sv_length]; omega)
      cases e7
      have := hc7 k _ (sv_get' F k hkF)
      rwa [add_off, ← ex] at this)
    have HMK := Lib.hid (show ∀ W, Below w13.heap.size w13 W → W.cell? ⟨gm, k, none⟩ = some (.string (strB y)) from fun W h => by
      obtain ⟨ad, e7, hc7⟩ := hRG.below h (by rw [sv_length]; omega)
      cases e7
      have := hc7 k _ (sv_get' G k hkG)
      rwa [add_off, Nat.zero_add, hGk] at this)
    obtain ⟨q0, eq0⟩ : ∃ q0, q0 = decide (y = x) := ⟨_, rfl⟩
    have HQT := Lib.hid (show q0 = true → G = F by
      intro h
      have := of_decide_eq_true (eq0.symm.trans h)
      rw [EG.out, this, ex]
      exact List.set_getElem_self hkF)
    have HPE := Lib.hid (show decide ((mkOf F).take (min N N) = (mkOf G).take (min N N)) = q0 by
      rw [Nat.min_self, List.take_of_length_le (by omega), List.take_of_length_le (by omega)]
      cases hq : q0 with
      | true =>
        have := HQT.out hq
        rw [this, decide_eq_true rfl]
      | false =>
        rw [decide_eq_false_iff_not]
        intro h
        have h2 := of_decide_eq_false (eq0.symm.trans hq)
        have h3 := congrArg (fun l => l[k]?) h
        simp only [List.getElem?_eq_getElem (show k < (mkOf F).length by omega), List.getElem?_eq_getElem (show k < (mkOf G).length by omega), mkOf_get F k (by omega) hkF, mkOf_get G k (by omega) hkG, Option.some.injEq, Prod.mk.injEq] at h3
        exact h2 (by rw [← hGk, ← h3.1, ex]))
    have HSE := Lib.hid (show ((strB y).toList == (strB x).toList) = q0 by
      rw [eq0, ByteArray.toList_eq, ByteArray.toList_eq]
      by_cases h : y = x
      · rw [h]; simp
      · have h2 : ¬ ((strB y).data.toList = (strB x).data.toList) := by rw [strB_toList, strB_toList]; exact h
        rw [decide_eq_false h, beq_eq_false_iff_ne]
        exact h2)
    have HSQ := Lib.hid (show q0 = true → strB y = strB x by
      intro h
      rw [of_decide_eq_true (eq0.symm.trans h)])
    have HSN := Lib.hid (show q0 = false → ¬ strB y = strB x by
      intro h h2
      exact of_decide_eq_false (eq0.symm.trans h) (strB_inj h2))
    have HHD := Lib.hid (show ∀ i, i < k → headOf (F.take (i + 1)) = headOf (G.take (i + 1)) by
      intro i hi
      rw [EG.out, List.take_set_of_le (by omega)])
    obtain ⟨sy, esy⟩ : ∃ sy, sy = strB y := ⟨_, rfl⟩
    obtain ⟨sx, esx⟩ : ∃ sx, sx = strB x := ⟨_, rfl⟩
    rw [← esy] at HMK HSE HSQ HSN
    rw [← esx] at HLK HSE HSQ HSN
    have HMFL := Lib.hid hMFl
    have HMGL := Lib.hid hMGl
    have HMFH := Lib.hid hMFh
    have HMGH := Lib.hid hMGh
    have B13 := Lib.hid (below_below B1.out B1.out.size HB13.out)
    have hNi : (N : Int) ≤ 8 := by have := HN.out; omega
    clear ho hb hRB hRA hRG hRF hMFl hMGl hMFh hMGh hp hkk hkF hkG hGk ex eq0 esy esx RA11 HO11 HB11 HB13
    go_wp2_with fail
    go_loopg [11] N (fun kk s11 wr => ∃ i : Nat, i ≤ N ∧ kk = N - i ∧ s11 = .int .i64 (i : Int) ∧ Below w13.heap.size w13 wr)
    case atStart => exact ⟨0, Nat.zero_le _, by omega, rfl, Below.refl _ _⟩
    case round =>
      obtain ⟨i, hi, hkk, rfl, hb⟩ := hrel
      have HK := Lib.hid hkk
      have HB := Lib.hid hb
      clear hkk hb
      by_cases hlt : i < N
      · have hiF : i < F.length := by rw [HFL.out]; exact hlt
        have hiG : i < G.length := by rw [HGL.out]; exact hlt
        have hiMF : i < (mkOf F).length := by rw [HMFL.out]; exact hlt
        have hiMG : i < (mkOf G).length := by rw [HMGL.out]; exact hlt
        obtain ⟨ha, eha⟩ : ∃ ha, ha = headOf (F.take (i + 1)) := ⟨_, rfl⟩
        obtain ⟨hb2, ehb⟩ : ∃ hb2, hb2 = headOf (G.take (i + 1)) := ⟨_, rfl⟩
        have hhal : ha.length = 32 := by rw [eha]; exact headOf_length _
        have hhbl : hb2.length = 32 := by rw [ehb]; exact headOf_length _
        have HRM := Lib.hid (show wr.drew.rangeAt ba (oa + i * 33 + 1) (bv ha) by
          obtain ⟨ad, e7, hc⟩ := HRA.out _ HB.out.drew (by rw [lv_length _ HMFH.out]; omega)
          cases e7
          have h2 := lk_range HMFH.out (fun j u hj => by have := hc j u hj; rwa [add_off] at this) i hiMF
          rw [mkOf_get F i hiMF hiF, ← eha] at h2
          intro j v hj
          have := h2 (j + 1) v (by simpa [lk] using hj)
          rwa [show oa + i * 33 + (j + 1) = oa + i * 33 + 1 + j by omega] at this)
        have HRM2 := Lib.hid (show wr.drew.rangeAt bb (ob + i * 33 + 1) (bv hb2) by
          obtain ⟨ad, e7, hc⟩ := HRB.out _ HB.out.drew (by rw [lv_length _ HMGH.out]; omega)
          cases e7
          have h2 := lk_range HMGH.out (fun j u hj => by have := hc j u hj; rwa [add_off] at this) i hiMG
          rw [mkOf_get G i hiMG hiG, ← ehb] at h2
          intro j v hj
          have := h2 (j + 1) v (by simpa [lk] using hj)
          rwa [show ob + i * 33 + (j + 1) = ob + i * 33 + 1 + j by omega] at this)
        obtain ⟨q, eq⟩ : ∃ q, q = decide (ha = hb2) := ⟨_, rfl⟩
        have HQ1 := Lib.hid (show i < k → q = true by
          intro h
          rw [eq, eha, ehb, HHD.out i h, decide_eq_true rfl])
        have HQ2 := Lib.hid (show q0 = true → q = true by
          intro h
          rw [eq, eha, ehb, HQT.out h, decide_eq_true rfl])
        obtain ⟨hca, ehca⟩ : ∃ hca, hca = (bv ha).toArray := ⟨_, rfl⟩
        obtain ⟨hcb, ehcb⟩ : ∃ hcb, hcb = (bv hb2).toArray := ⟨_, rfl⟩
        have HEQ := Lib.hid (show ∀ W, (Op.equalIn 10000 28 (.agg hca) (.agg hcb)).run Try.prog W = .ok q W by
          intro W
          rw [ehca, ehcb, eq32 ha hb2 hhal hhbl, eq])
        have EHCA := Lib.hid ehca
        have EHCB := Lib.hid ehcb
        have HHAL := Lib.hid hhal
        have HHBL := Lib.hid hhbl
        have hi0 : (0 : Int) ≤ (i : Int) := by omega
        have hi1 : (i : Int) < (N : Int) := by omega
        have HLT := Lib.hid hlt
        have cmk := HMK.out wr HB.out
        have clk := HLK.out wr HB.out
        clear hiF hiG hiMF hiMG eha ehb hhal hhbl eq ehca ehcb hlt hi
        go_upto_region 14 with fail
        go_cut [12] (fun s12 wx => s12 = .bool q ∧ wx = wr.drew)
        case first =>
          refine region_by (fun W => W = wr.drew) [(fun v _ => v = .slice (some ⟨ba, oa, none⟩) N ca), (fun v _ => v = .int .i64 (i : Int)), (fun v _ => v = .pointer (some ⟨ba, oa + i * 33, none⟩)), (fun v _ => v = .pointer (some ⟨ba, oa + i * 33 + 1, none⟩)), fun v _ => v = .agg hca, (fun v _ => v = .slice (some ⟨bb, ob, none⟩) N cb), (fun v _ => v = .int .i64 (i : Int)), (fun v _ => v = .pointer (some ⟨bb, ob + i * 33, none⟩)), (fun v _ => v = .pointer (some ⟨bb, ob + i * 33 + 1, none⟩)), fun v _ => v = .agg hcb, fun v _ => v = .bool q, (fun v _ => v = .bool q)] (by kernel_rfl) (by kernel_rfl) (by kernel_rfl) rfl (rfl) ?ok14 ?fin14
          case ok14 =>
            refine ⟨?_, ?_, ?_, ?_, ?_, ?_, ?_, ?_, ?_, ?_, ?_, ?_, trivial⟩
            · intro a' w' K hI hd hq hK
              have e9 : a'.eval (.tmp 9) = .slice (some ⟨ba, oa, none⟩) N ca := (hq 9 (by kernel_rfl)).trans rfl
              clear hd hq
              refine op_value (wanted_free _ _ (by rfl)) (v := .slice (some ⟨ba, oa, none⟩) N ca) (w'' := w') ?_ (hK _ _ hI (fun _ _ h => h) rfl)
              clear hK
              simp only [execOp, e9]
              have f9 : a'.tmps[9]?.getD undef = .slice (some ⟨ba, oa, none⟩) N ca := (Array.getD_eq_getD_getElem? ..).symm.trans e9
              clear e9
              first | rfl | (go_simp <;> exact IntWalk.i64_in _ (by omega))
            · intro a' w' K hI hd hq hK
              have e11 : a'.eval (.tmp 11) = .int .i64 (i : Int) := (hq 11 (by kernel_rfl)).trans rfl
              clear hd hq
              refine op_value (wanted_free _ _ (by rfl)) (v := .int .i64 (i : Int)) (w'' := w') ?_ (hK _ _ hI (fun _ _ h => h) rfl)
              clear hK
              simp only [execOp, e11]
              have f11 : a'.tmps[11]?.getD undef = .int .i64 (i : Int) := (Array.getD_eq_getD_getElem? ..).symm.trans e11
              clear e11
              first | rfl | (go_simp <;> exact IntWalk.i64_in _ (by omega))
            · intro a' w' K hI hd hq hK
              have e57 : a'.eval (.tmp 57) = .slice (some ⟨ba, oa, none⟩) N ca := (hd 0 57 (by kernel_rfl))
              have e58 : a'.eval (.tmp 58) = .int .i64 (i : Int) := (hd 1 58 (by kernel_rfl))
              clear hd hq
              refine op_value (wanted_free _ _ (by rfl)) (v := .pointer (some ⟨ba, oa + i * 33, none⟩)) (w'' := w') ?_ (hK _ _ hI (fun _ _ h => h) rfl)
              clear hK
              simp only [execOp, e57, e58]
              have f57 : a'.tmps[57]?.getD undef = .slice (some ⟨ba, oa, none⟩) N ca := (Array.getD_eq_getD_getElem? ..).symm.trans e57
              have f58 : a'.tmps[58]?.getD undef = .int .i64 (i : Int) := (Array.getD_eq_getD_getElem? ..).symm.trans e58
              clear e57 e58
              first | rfl | (go_simp <;> exact IntWalk.i64_in _ (by omega))
            · intro a' w' K hI hd hq hK
              have e59 : a'.eval (.tmp 59) = .pointer (some ⟨ba, oa + i * 33, none⟩) := (hd 2 59 (by kernel_rfl))
              clear hd hq
              refine op_value (wanted_free _ _ (by rfl)) (v := .pointer (some ⟨ba, oa + i * 33 + 1, none⟩)) (w'' := w') ?_ (hK _ _ hI (fun _ _ h => h) rfl)
              clear hK
              simp only [execOp, e59]
              have f59 : a'.tmps[59]?.getD undef = .pointer (some ⟨ba, oa + i * 33, none⟩) := (Array.getD_eq_getD_getElem? ..).symm.trans e59
              clear e59
              first | rfl | (go_simp <;> exact IntWalk.i64_in _ (by omega))
            · intro a' w' K hI hd hq hK
              have e60 : a'.eval (.tmp 60) = .pointer (some ⟨ba, oa + i * 33 + 1, none⟩) := (hd 3 60 (by kernel_rfl))
              clear hd hq
              subst hI
              refine op_value (wanted_free _ _ (by rfl)) (v := .agg hca) (w'' := wr.drew) ?_ (hK _ _ rfl (fun _ _ h => h) rfl)
              rw [EHCA.out]
              simp only [execOp, e60, Instr.loadAt, Instr.sureAddr, Sem.run_bind, Sem.run_pure, Result.andThen_ok, run_loadVar_mid wr.drew ba (oa + i * 33 + 1) 28 (bv ha) _ HRM.out Try.underlying28 rfl (by rw [bv_length, HHAL.out]; exact info72)]
            · intro a' w' K hI hd hq hK
              have e10 : a'.eval (.tmp 10) = .slice (some ⟨bb, ob, none⟩) N cb := (hq 10 (by kernel_rfl)).trans rfl
              clear hd hq
              refine op_value (wanted_free _ _ (by rfl)) (v := .slice (some ⟨bb, ob, none⟩) N cb) (w'' := w') ?_ (hK _ _ hI (fun _ _ h => h) rfl)
              clear hK
              simp only [execOp, e10]
              have f10 : a'.tmps[10]?.getD undef = .slice (some ⟨bb, ob, none⟩) N cb := (Array.getD_eq_getD_getElem? ..).symm.trans e10
              clear e10
              first | rfl | (go_simp <;> exact IntWalk.i64_in _ (by omega))
            · intro a' w' K hI hd hq hK
              have e11 : a'.eval (.tmp 11) = .int .i64 (i : Int) := (hq 11 (by kernel_rfl)).trans rfl
              clear hd hq
              refine op_value (wanted_free _ _ (by rfl)) (v := .int .i64 (i : Int)) (w'' := w') ?_ (hK _ _ hI (fun _ _ h => h) rfl)
              clear hK
              simp only [execOp, e11]
              have f11 : a'.tmps[11]?.getD undef = .int .i64 (i : Int) := (Array.getD_eq_getD_getElem? ..).symm.trans e11
              clear e11
              first | rfl | (go_simp <;> exact IntWalk.i64_in _ (by omega))
            · intro a' w' K hI hd hq hK
              have e62 : a'.eval (.tmp 62) = .slice (some ⟨bb, ob, none⟩) N cb := (hd 5 62 (by kernel_rfl))
              have e63 : a'.eval (.tmp 63) = .int .i64 (i : Int) := (hd 6 63 (by kernel_rfl))
              clear hd hq
              refine op_value (wanted_free _ _ (by rfl)) (v := .pointer (some ⟨bb, ob + i * 33, none⟩)) (w'' := w') ?_ (hK _ _ hI (fun _ _ h => h) rfl)
              clear hK
              simp only [execOp, e62, e63]
              have f62 : a'.tmps[62]?.getD undef = .slice (some ⟨bb, ob, none⟩) N cb := (Array.getD_eq_getD_getElem? ..).symm.trans e62
              have f63 : a'.tmps[63]?.getD undef = .int .i64 (i : Int) := (Array.getD_eq_getD_getElem? ..).symm.trans e63
              clear e62 e63
              first | rfl | (go_simp <;> exact IntWalk.i64_in _ (by omega))
            · intro a' w' K hI hd hq hK
              have e64 : a'.eval (.tmp 64) = .pointer (some ⟨bb, ob + i * 33, none⟩) := (hd 7 64 (by kernel_rfl))
              clear hd hq
              refine op_value (wanted_free _ _ (by rfl)) (v := .pointer (some ⟨bb, ob + i * 33 + 1, none⟩)) (w'' := w') ?_ (hK _ _ hI (fun _ _ h => h) rfl)
              clear hK
              simp only [execOp, e64]
              have f64 : a'.tmps[64]?.getD undef = .pointer (some ⟨bb, ob + i * 33, none⟩) := (Array.getD_eq_getD_getElem? ..).symm.trans e64
              clear e64
              first | rfl | (go_simp <;> exact IntWalk.i64_in _ (by omega))
            · intro a' w' K hI hd hq hK
              have e65 : a'.eval (.tmp 65) = .pointer (some ⟨bb, ob + i * 33 + 1, none⟩) := (hd 8 65 (by kernel_rfl))
              clear hd hq
              subst hI
              refine op_value (wanted_free _ _ (by rfl)) (v := .agg hcb) (w'' := wr.drew) ?_ (hK _ _ rfl (fun _ _ h => h) rfl)
              rw [EHCB.out]
              simp only [execOp, e65, Instr.loadAt, Instr.sureAddr, Sem.run_bind, Sem.run_pure, Result.andThen_ok, run_loadVar_mid wr.drew bb (ob + i * 33 + 1) 28 (bv hb2) _ HRM2.out Try.underlying28 rfl (by rw [bv_length, HHBL.out]; exact info72)]
            · intro a' w' K hI hd hq hK
              have e61 : a'.eval (.tmp 61) = .agg hca := (hd 4 61 (by kernel_rfl))
              have e66 : a'.eval (.tmp 66) = .agg hcb := (hd 9 66 (by kernel_rfl))
              clear hd hq
              refine op_value (wanted_free _ _ (by rfl)) (v := .bool q) (w'' := w') ?_ (hK _ _ hI (fun _ _ h => h) rfl)
              simp only [execOp, e61, e66, Sem.run_bind, run_eqGuard_agg w' _ 28 _ _ _ _ (show Try.prog.eqGuardType Try.prog.depth 28 = false by kernel_rfl), run_eql_struct, HEQ.out w', Result.andThen_ok, Sem.run_pure]
            · intro a' w' K hI hd hq hK
              have e67 : a'.eval (.tmp 67) = .bool q := (hd 10 67 (by kernel_rfl))
              clear hd hq
              refine op_value (wanted_free _ _ (by rfl)) (v := .bool q) (w'' := w') ?_ (hK _ _ hI (fun _ _ h => h) rfl)
              clear hK
              simp only [execOp, e67]
              have f67 : a'.tmps[67]?.getD undef = .bool q := (Array.getD_eq_getD_getElem? ..).symm.trans e67
              clear e67
              first | rfl | (go_simp <;> exact IntWalk.i64_in _ (by omega))
          case fin14 =>
            rintro w' hI _ rfl _ rfl _ rfl _ rfl _ rfl _ rfl _ rfl _ rfl _ rfl _ rfl _ rfl _ rfl
            simp only [Act.put, List.setIfInBounds_toArray, List.set_cons_zero, List.set_cons_succ, FinGoal]
            subst hI
            go_wp2_with fail
            go_meet
            exact ⟨rfl, rfl⟩
        case rest =>
          obtain ⟨rfl, rfl⟩ := hcut
          go_upto_region 15 with fail
          go_cut [89] (fun s89 wx => s89 = .bool false ∧ Below w13.heap.size w13 wx)
          case first =>
            by_cases hik : i < k
            · have hqt := HQ1.out hik
              subst hqt
              have hik' : (i : Int) < (k : Int) := by omega
              clear hik
              cases q0 with
              | true =>
                have hss := HSQ.out (by first | rfl | trivial)
                subst hss
                go_quiet (fail)
                go_wp2_with fail
                go_meet
                exact ⟨rfl, below_drewN HB.out _⟩
              | false =>
                have hz1 := HSN.out (by first | rfl | trivial)
                have hz2 := HSE.out
                go_quiet (fail)
                go_wp2_with fail
                go_meet
                exact ⟨rfl, below_drewN HB.out _⟩
            · have hik' : ¬ ((i : Int) < (k : Int)) := by omega
              clear hik
              cases q0 with
              | true =>
                have hqt := HQ2.out (by first | rfl | trivial)
                subst hqt
                have hss := HSQ.out (by first | rfl | trivial)
                subst hss
                go_quiet (fail)
                go_wp2_with fail
                go_meet
                exact ⟨rfl, below_drewN HB.out _⟩
              | false =>
                have hz1 := HSN.out (by first | rfl | trivial)
                have hz2 := HSE.out
                go_quiet (fail)
                go_wp2_with fail
                go_meet
                exact ⟨rfl, below_drewN HB.out _⟩
          case rest =>
            obtain ⟨rfl, hB3⟩ := hcut
            have HB3 := Lib.hid hB3
            have cmk := HMK.out _ hB3
            have clk := HLK.out _ hB3
            clear hB3
            go_upto_region 17 with fail
            go_cut [106] (fun s106 wx => (∃ r, s106 = .bool r) ∧ Below w13.heap.size w13 wx)
            case first =>
              by_cases hik : (i : Int) < (k : Int)
              · have hik2 : ¬ ((k : Int) ≤ (i : Int)) := by omega
                go_quiet (fail)
                go_wp2_with fail
                go_meet
                exact ⟨⟨_, rfl⟩, below_drewN HB3.out _⟩
              · have hik2 : (k : Int) ≤ (i : Int) := by omega
                cases q0 with
                | true =>
                  have hss := HSQ.out (by first | rfl | trivial)
                  subst hss
                  go_quiet (fail)
                  go_wp2_with fail
                  go_meet
                  exact ⟨⟨_, rfl⟩, below_drewN HB3.out _⟩
                | false =>
                  have hz1 := HSN.out (by first | rfl | trivial)
                  have hz2 := HSE.out
                  go_quiet (fail)
                  go_wp2_with fail
                  go_meet
                  exact ⟨⟨_, rfl⟩, below_drewN HB3.out _⟩
            case rest =>
              obtain ⟨⟨r, rfl⟩, hB4⟩ := hcut
              have HB4 := Lib.hid hB4
              clear cmk clk hB4
              cases r with
              | true =>
                go_wp2_with fail
                refine (known19_any _).mono ?_
                rintro e w20 ⟨rfl, hb⟩
                go_wp2_with fail
                go_ret
                exact ⟨rfl, below_below (below_below B13.out B13.out.size HB4.out) (Nat.le_trans B13.out.size HB4.out.size) hb⟩
              | false =>
                go_wp2_with fail
                go_roundg (N - (i + 1))
                case measure => have := HK.out; have := HLT.out; omega
                case rel => exact ⟨i + 1, HLT.out, rfl, by go_num, HB4.out⟩
      · obtain rfl : i = N := by omega
        clear hlt hi
        have HTF := Lib.hid (mkOf_texts F 1000000 HFS.out)
        have HTG := Lib.hid (mkOf_texts G 1000000 HGS.out)
        go_upto_region 19 with fail
        refine region_by (fun W => Below w13.heap.size w13 W ∧ Below w.heap.size w W) [(fun v _ => v = .slice (some ⟨ba, oa, none⟩) i ca), (fun v _ => v = .slice (some ⟨bb, ob, none⟩) i cb), fun v _ => v = .bool q0, (fun v _ => v = .slice (some ⟨gm, 0, none⟩) i cm), (fun v _ => v = .int .i64 (k : Int)), (fun v _ => v = .pointer (some ⟨gm, k, none⟩)), (fun v _ => v = .string sy), (fun v _ => v = .slice (some ⟨b0, o0, none⟩) i c0), (fun v _ => v = .int .i64 (k : Int)), (fun v _ => v = .pointer (some ⟨b0, o0 + k, none⟩)), (fun v _ => v = .string sx), (fun v _ => v = .bool q0), (fun v _ => v = .bool true), (fun v _ => v = .bool true), fun v _ => v = .bool true, (fun v _ => v = (.bool true)), (fun v _ => v = (.bool true))] (by kernel_rfl) (by kernel_rfl) (by kernel_rfl) rfl (⟨HB.out.drew, (below_below B13.out B13.out.size HB.out).drew⟩) ?ok19 ?fin19
        case ok19 =>
          refine ⟨?_, ?_, ?_, ?_, ?_, ?_, ?_, ?_, ?_, ?_, ?_, ?_, ?_, ?_, ?_, ?_, ?_, trivial⟩
          · intro a' w' K hI hd hq hK
            have e9 : a'.eval (.tmp 9) = .slice (some ⟨ba, oa, none⟩) i ca := (hq 9 (by kernel_rfl)).trans rfl
            clear hd hq
            refine op_value (wanted_free _ _ (by rfl)) (v := .slice (some ⟨ba, oa, none⟩) i ca) (w'' := w') ?_ (hK _ _ hI (fun _ _ h => h) rfl)
            clear hK
            simp only [execOp, e9]
            have f9 : a'.tmps[9]?.getD undef = .slice (some ⟨ba, oa, none⟩) i ca := (Array.getD_eq_getD_getElem? ..).symm.trans e9
            clear e9
            first | rfl | (go_simp <;> exact IntWalk.i64_in _ (by omega))
          · intro a' w' K hI hd hq hK
            have e10 : a'.eval (.tmp 10) = .slice (some ⟨bb, ob, none⟩) i cb := (hq 10 (by kernel_rfl)).trans rfl
            clear hd hq
            refine op_value (wanted_free _ _ (by rfl)) (v := .slice (some ⟨bb, ob, none⟩) i cb) (w'' := w') ?_ (hK _ _ hI (fun _ _ h => h) rfl)
            clear hK
            simp only [execOp, e10]
            have f10 : a'.tmps[10]?.getD undef = .slice (some ⟨bb, ob, none⟩) i cb := (Array.getD_eq_getD_getElem? ..).symm.trans e10
            clear e10
            first | rfl | (go_simp <;> exact IntWalk.i64_in _ (by omega))
          · intro a' w' K hI hd hq hK
            have e108 : a'.eval (.tmp 108) = .slice (some ⟨ba, oa, none⟩) i ca := (hd 0 108 (by kernel_rfl))
            have e109 : a'.eval (.tmp 109) = .slice (some ⟨bb, ob, none⟩) i cb := (hd 1 109 (by kernel_rfl))
            clear hd hq
            refine op_call #[.slice (some ⟨ba, oa, none⟩) i ca, .slice (some ⟨bb, ob, none⟩) i cb] (wanted_free _ _ (by rfl)) rfl Try.func19 (by kernel_rfl) rfl (by simp [e108, e109]) ?_
            refine (prefix_any (some ⟨ba, oa, none⟩) (some ⟨bb, ob, none⟩) i ca i cb (mkOf F) (mkOf G) w' HMFL.out HMGL.out (by have := HN.out; omega) (by have := HN.out; omega) HMFH.out HMGH.out HTF.out HTG.out (HRA.out _ hI.1) (HRB.out _ hI.1)).mono ?_
            rw [HPE.out]
            rintro e w6 ⟨rfl, hb⟩
            refine ⟨_, rfl, hK _ _ ⟨below_below hI.1 hI.1.size hb, below_below hI.2 hI.2.size hb⟩ (fun j u => by match j with | 0 | 1 | 2 | 3 | 4 | 5 | 6 | 7 | 8 | 9 | 10 | 11 | 12 | 13 | 14 | 15 | 16 => exact fun h => h | _ + 17 => exact fun _ => trivial) rfl⟩
          · intro a' w' K hI hd hq hK
            have e7 : a'.eval (.tmp 7) = .slice (some ⟨gm, 0, none⟩) i cm := (hq 7 (by kernel_rfl)).trans rfl
            clear hd hq
            refine op_value (wanted_free _ _ (by rfl)) (v := .slice (some ⟨gm, 0, none⟩) i cm) (w'' := w') ?_ (hK _ _ hI (fun _ _ h => h) rfl)
            clear hK
            simp only [execOp, e7]
            have f7 : a'.tmps[7]?.getD undef = .slice (some ⟨gm, 0, none⟩) i cm := (Array.getD_eq_getD_getElem? ..).symm.trans e7
            clear e7
            first | rfl | (go_simp <;> exact IntWalk.i64_in _ (by omega))
          · intro a' w' K hI hd hq hK
            have e8 : a'.eval (.tmp 8) = .int .i64 (k : Int) := (hq 8 (by kernel_rfl)).trans rfl
            clear hd hq
            refine op_value (wanted_free _ _ (by rfl)) (v := .int .i64 (k : Int)) (w'' := w') ?_ (hK _ _ hI (fun _ _ h => h) rfl)
            clear hK
            simp only [execOp, e8]
            have f8 : a'.tmps[8]?.getD undef = .int .i64 (k : Int) := (Array.getD_eq_getD_getElem? ..).symm.trans e8
            clear e8
            first | rfl | (go_simp <;> exact IntWalk.i64_in _ (by omega))
          · intro a' w' K hI hd hq hK
            have e111 : a'.eval (.tmp 111) = .slice (some ⟨gm, 0, none⟩) i cm := (hd 3 111 (by kernel_rfl))
            have e112 : a'.eval (.tmp 112) = .int .i64 (k : Int) := (hd 4 112 (by kernel_rfl))
            clear hd hq
            have hk1 : (k : Int) < (i : Int) := by have := HKN.out; omega
            refine op_value (wanted_free _ _ (by rfl)) (v := .pointer (some ⟨gm, k, none⟩)) (w'' := w') ?_ (hK _ _ hI (fun _ _ h => h) rfl)
            clear hK
            simp only [execOp, e111, e112]
            have f111 : a'.tmps[111]?.getD undef = .slice (some ⟨gm, 0, none⟩) i cm := (Array.getD_eq_getD_getElem? ..).symm.trans e111
            have f112 : a'.tmps[112]?.getD undef = .int .i64 (k : Int) := (Array.getD_eq_getD_getElem? ..).symm.trans e112
            clear e111 e112
            first | rfl | (go_simp <;> exact IntWalk.i64_in _ (by omega))
          · intro a' w' K hI hd hq hK
            have e113 : a'.eval (.tmp 113) = .pointer (some ⟨gm, k, none⟩) := (hd 5 113 (by kernel_rfl))
            clear hd hq
            have cmk := HMK.out _ hI.1
            refine op_value (wanted_free _ _ (by rfl)) (v := .string sy) (w'' := w') ?_ (hK _ _ hI (fun _ _ h => h) rfl)
            clear hK
            simp only [execOp, e113]
            have f113 : a'.tmps[113]?.getD undef = .pointer (some ⟨gm, k, none⟩) := (Array.getD_eq_getD_getElem? ..).symm.trans e113
            clear e113
            first | rfl | (go_simp <;> exact IntWalk.i64_in _ (by omega))
          · intro a' w' K hI hd hq hK
            have e0 : a'.eval (.tmp 0) = .slice (some ⟨b0, o0, none⟩) i c0 := (hq 0 (by kernel_rfl)).trans rfl
            clear hd hq
            refine op_value (wanted_free _ _ (by rfl)) (v := .slice (some ⟨b0, o0, none⟩) i c0) (w'' := w') ?_ (hK _ _ hI (fun _ _ h => h) rfl)
            clear hK
            simp only [execOp, e0]
            have f0 : a'.tmps[0]?.getD undef = .slice (some ⟨b0, o0, none⟩) i c0 := (Array.getD_eq_getD_getElem? ..).symm.trans e0
            clear e0
            first | rfl | (go_simp <;> exact IntWalk.i64_in _ (by omega))
          · intro a' w' K hI hd hq hK
            have e8 : a'.eval (.tmp 8) = .int .i64 (k : Int) := (hq 8 (by kernel_rfl)).trans rfl
            clear hd hq
            refine op_value (wanted_free _ _ (by rfl)) (v := .int .i64 (k : Int)) (w'' := w') ?_ (hK _ _ hI (fun _ _ h => h) rfl)
            clear hK
            simp only [execOp, e8]
            have f8 : a'.tmps[8]?.getD undef = .int .i64 (k : Int) := (Array.getD_eq_getD_getElem? ..).symm.trans e8
            clear e8
            first | rfl | (go_simp <;> exact IntWalk.i64_in _ (by omega))
          · intro a' w' K hI hd hq hK
            have e115 : a'.eval (.tmp 115) = .slice (some ⟨b0, o0, none⟩) i c0 := (hd 7 115 (by kernel_rfl))
            have e116 : a'.eval (.tmp 116) = .int .i64 (k : Int) := (hd 8 116 (by kernel_rfl))
            clear hd hq
            have hk1 : (k : Int) < (i : Int) := by have := HKN.out; omega
            refine op_value (wanted_free _ _ (by rfl)) (v := .pointer (some ⟨b0, o0 + k, none⟩)) (w'' := w') ?_ (hK _ _ hI (fun _ _ h => h) rfl)
            clear hK
            simp only [execOp, e115, e116]
            have f115 : a'.tmps[115]?.getD undef = .slice (some ⟨b0, o0, none⟩) i c0 := (Array.getD_eq_getD_getElem? ..).symm.trans e115
            have f116 : a'.tmps[116]?.getD undef = .int .i64 (k : Int) := (Array.getD_eq_getD_getElem? ..).symm.trans e116
            clear e115 e116
            first | rfl | (go_simp <;> exact IntWalk.i64_in _ (by omega))
          · intro a' w' K hI hd hq hK
            have e117 : a'.eval (.tmp 117) = .pointer (some ⟨b0, o0 + k, none⟩) := (hd 9 117 (by kernel_rfl))
            clear hd hq
            have clk := HLK.out _ hI.1
            refine op_value (wanted_free _ _ (by rfl)) (v := .string sx) (w'' := w') ?_ (hK _ _ hI (fun _ _ h => h) rfl)
            clear hK
            simp only [execOp, e117]
            have f117 : a'.tmps[117]?.getD undef = .pointer (some ⟨b0, o0 + k, none⟩) := (Array.getD_eq_getD_getElem? ..).symm.trans e117
            clear e117
            first | rfl | (go_simp <;> exact IntWalk.i64_in _ (by omega))
          · intro a' w' K hI hd hq hK
            have e114 : a'.eval (.tmp 114) = .string sy := (hd 6 114 (by kernel_rfl))
            have e118 : a'.eval (.tmp 118) = .string sx := (hd 10 118 (by kernel_rfl))
            clear hd hq
            have hse := HSE.out
            refine op_value (wanted_free _ _ (by rfl)) (v := .bool q0) (w'' := w') ?_ (hK _ _ hI (fun _ _ h => h) rfl)
            clear hK
            simp only [execOp, e114, e118]
            have f114 : a'.tmps[114]?.getD undef = .string sy := (Array.getD_eq_getD_getElem? ..).symm.trans e114
            have f118 : a'.tmps[118]?.getD undef = .string sx := (Array.getD_eq_getD_getElem? ..).symm.trans e118
            clear e114 e118
            first | rfl | (go_simp <;> exact IntWalk.i64_in _ (by omega))
          · intro a' w' K hI hd hq hK
            have e110 : a'.eval (.tmp 110) = .bool q0 := (hd 2 110 (by kernel_rfl))
            have e119 : a'.eval (.tmp 119) = .bool q0 := (hd 11 119 (by kernel_rfl))
            clear hd hq
            refine op_value (wanted_free _ _ (by rfl)) (v := .bool true) (w'' := w') ?_ (hK _ _ hI (fun _ _ h => h) rfl)
            clear hK
            simp only [execOp, e110, e119]
            have f110 : a'.tmps[110]?.getD undef = .bool q0 := (Array.getD_eq_getD_getElem? ..).symm.trans e110
            have f119 : a'.tmps[119]?.getD undef = .bool q0 := (Array.getD_eq_getD_getElem? ..).symm.trans e119
            clear e110 e119
            first | rfl | (go_simp <;> exact IntWalk.i64_in _ (by omega))
          · intro a' w' K hI hd hq hK
            have e120 : a'.eval (.tmp 120) = .bool true := (hd 12 120 (by kernel_rfl))
            clear hd hq
            refine op_value (wanted_free _ _ (by rfl)) (v := .bool true) (w'' := w') ?_ (hK _ _ hI (fun _ _ h => h) rfl)
            clear hK
            simp only [execOp, e120]
            have f120 : a'.tmps[120]?.getD undef = .bool true := (Array.getD_eq_getD_getElem? ..).symm.trans e120
            clear e120
            first | rfl | (go_simp <;> exact IntWalk.i64_in _ (by omega))
          · intro a' w' K hI hd hq hK
            have hg := hd 13 121 (by kernel_rfl)
            clear hd hq
            refine op_call #[] (wanted_on _ a' 13 121 true (by rfl) (by rfl) hg) rfl Try.func16 (by kernel_rfl) rfl (by simp) ?_
            refine (known19_any w').mono ?_
            rintro e w6 ⟨rfl, hb⟩
            refine ⟨_, rfl, hK _ _ ⟨below_below hI.1 hI.1.size hb, below_below hI.2 hI.2.size hb⟩ (fun j u => by match j with | 0 | 1 | 2 | 3 | 4 | 5 | 6 | 7 | 8 | 9 | 10 | 11 | 12 | 13 | 14 | 15 | 16 => exact fun h => h | _ + 17 => exact fun _ => trivial) rfl⟩
          · intro a' w' K hI hd hq hK
            have e121 : a'.eval (.tmp 121) = .bool true := (hd 13 121 (by kernel_rfl))
            have e122 : a'.eval (.tmp 122) = .bool true := (hd 14 122 (by kernel_rfl))
            clear hd hq
            refine op_value (wanted_free _ _ (by rfl)) (v := (.bool true)) (w'' := w') ?_ (hK _ _ hI (fun _ _ h => h) rfl)
            clear hK
            simp only [execOp, e121, e122]
            have f121 : a'.tmps[121]?.getD undef = .bool true := (Array.getD_eq_getD_getElem? ..).symm.trans e121
            have f122 : a'.tmps[122]?.getD undef = .bool true := (Array.getD_eq_getD_getElem? ..).symm.trans e122
            clear e121 e122
            first | rfl | (go_simp <;> exact IntWalk.i64_in _ (by omega))
          · intro a' w' K hI hd hq hK
            have e123 : a'.eval (.tmp 123) = (.bool true) := (hd 15 123 (by kernel_rfl))
            clear hd hq
            refine op_value (wanted_free _ _ (by rfl)) (v := (.bool true)) (w'' := w') ?_ (hK _ _ hI (fun _ _ h => h) rfl)
            clear hK
            simp only [execOp, e123]
            have f123 : a'.tmps[123]?.getD undef = (.bool true) := (Array.getD_eq_getD_getElem? ..).symm.trans e123
            clear e123
            first | rfl | (go_simp <;> exact IntWalk.i64_in _ (by omega))
        case fin19 =>
          rintro w' hI _ rfl _ rfl _ rfl _ rfl _ rfl _ rfl _ rfl _ rfl _ rfl _ rfl _ rfl _ rfl _ rfl _ rfl _ rfl _ rfl _ rfl
          simp only [Act.put, List.setIfInBounds_toArray, List.set_cons_zero, List.set_cons_succ, FinGoal]
          go_wp2_with fail
          go_ret
          exact ⟨rfl, hI.2⟩

end Go.Proofs.Ythlbmjjodjepjaa
