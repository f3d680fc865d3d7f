/-
  The walk of the law ChainLinks.
-/
import Derived.Test.YthlbmjjodjepjaaKnown19
set_option linter.unusedVariables false
set_option linter.unusedSimpArgs false
namespace Go.Proofs.Ythlbmjjodjepjaa
open Go.RowKit

/-- What stands while operation k, the store into the block g, has not been done. -/
structure HeadI (w5 : World) (g k : Nat) (hd : List UInt8) (l : Array Bool) (W : World) : Prop where
  below : Below g w5 W
  lt : g < W.heap.size
  head : l.getD k false = false → Arr W g 28 (bv hd)
theorem HeadI.set {w5 : World} {g k : Nat} {hd : List UInt8} {l : Array Bool} {W : World} (h : HeadI w5 g k hd l W) (i : Nat) : HeadI w5 g k hd (l.setIfInBounds i true) W := by
  refine ⟨h.below, h.lt, fun hl => h.head ?_⟩
  rw [Array.getD_eq_getD_getElem?, Array.getElem?_setIfInBounds] at hl
  rw [Array.getD_eq_getD_getElem?]
  by_cases hi : i = k
  · subst hi
    by_cases hs : i < l.size
    · simp [hs] at hl
    · simp [hs]
  · simpa [hi] using hl
theorem op_do {P : Program} {ops : Array Oper} {Q : Exit → Act → World → Prop} {a' : Act} {w' : World} {K : Act → World → Prop} {o : Oper} {E : Prop} (hw : Region.wanted o (yielded ops a'.tmps) = true) (h : o.wp P a' w' K Q) :
    if Region.wanted o (yielded ops a'.tmps) = true then o.wp P a' w' K Q else E := by
  rw [if_pos hw]
  exact h
theorem headOf_all (F : List (List UInt8)) (n : Nat) (h : n = F.length) : F.take n = F := by rw [h]; exact List.take_length ..
theorem mkOf_map (F : List (List UInt8)) : (mkOf F).map (·.1) = F := by
  apply List.ext_getElem
  · rw [List.length_map, mkOf_length]
  · intro i h1 h2
    rw [List.getElem_map, mkOf_get F i (by rw [mkOf_length]; exact h2) h2]
theorem mkOf_take (F : List (List UInt8)) (s : List UInt8) : (mkOf (F ++ [s])).take F.length = mkOf F := by
  rw [mkOf_snoc, List.take_append_of_le_length (by rw [mkOf_length]; exact Nat.le_refl _), List.take_of_length_le (by rw [mkOf_length]; exact Nat.le_refl _)]

set_option maxRecDepth 100000 in
set_option maxHeartbeats 16000000 in
theorem chainLinks_any (A : Option Addr) (n c : Nat) (L : List (List UInt8)) (more : ByteArray) (w : World) (hl : L.length = n) (hn : n ≤ 9223372036854775807) (hr : RS w A L) :
    Calls Try.prog 4 #[.slice A n c, .string more] w fun e w' => e = .returned (.bool true) ∧ Below w.heap.size w w' := by
  subst hl
  have HL := Lib.hid hr
  clear hr
  obtain ⟨F, eF⟩ : ∃ F, F = fewOf L 10 := ⟨_, rfl⟩
  obtain ⟨N, eN⟩ : ∃ N, N = min 10 L.length := ⟨_, rfl⟩
  have hFl : F.length = N := by rw [eF, eN, fewOf_length]
  have hFs : ∀ x ∈ F, x.length ≤ 1000000 := fun x hx => by rw [eF] at hx; have := fewOf_small L 10 x hx; omega
  have hN : N ≤ 10 := by omega
  have EF := Lib.hid eF
  have EN := Lib.hid eN
  have HFL := Lib.hid hFl
  have HFS := Lib.hid hFs
  have HN := Lib.hid hN
  clear eF eN hFl hFs hN
  go_enter Try.func4, Try.ntmps4
  go_wp2_with fail
  refine (few19_any A L.length c L 10 w rfl (by omega) HL.out).mono ?_
  rw [← EF.out, ← EN.out]
  rintro e w1 ⟨v0, rfl, ho, hb⟩
  obtain ⟨A0, c0, rfl, _⟩ := own_slice ho
  have O1 := Lib.hid ho
  have B1 := Lib.hid hb
  clear ho hb
  go_wp2_with fail
  refine (make_any A0 N c0 F w1 HFL.out (by have := HN.out; omega) HFS.out (own_RC O1.out)).mono ?_
  rw [HFL.out]
  rintro e w2 ⟨va, rfl, ho, hb⟩
  obtain ⟨Aa, ca, rfl, _⟩ := own_slice ho
  have RA2 := Lib.hid (own_RC ho)
  have RF2 := Lib.hid ((own_RC O1.out).below hb)
  have B2 := Lib.hid (below_below B1.out B1.out.size hb)
  clear ho hb O1 B1
  have HML := Lib.hid (show (mkOf F).length = N by rw [mkOf_length, HFL.out])
  have HMH := Lib.hid (mkOf_heads F)
  have HMT := Lib.hid (mkOf_texts F 1000000 HFS.out)
  go_wp2_with fail
  refine (chainTexts_any Aa N ca (mkOf F) w2 HML.out (by have := HN.out; omega) HMH.out RA2.out).mono ?_
  rw [mkOf_map, HML.out]
  rintro e w3 ⟨vt, rfl, ho, hb⟩
  obtain ⟨At, ct, rfl, _⟩ := own_slice ho
  have RT3 := Lib.hid (own_RC ho)
  have RF3 := Lib.hid (RF2.out.below hb)
  have RA3 := Lib.hid (RA2.out.below hb)
  have B3 := Lib.hid (below_below B2.out B2.out.size hb)
  clear ho hb RF2 RA2 B2
  go_wp2_with fail
  refine (sameS_any At A0 N ct N c0 F F w3 HFL.out HFL.out (by have := HN.out; omega) (by have := HN.out; omega) RT3.out RF3.out).mono ?_
  rw [decide_eq_true rfl]
  rintro e w4 ⟨rfl, hb⟩
  have RF4 := Lib.hid (RF3.out.below hb)
  have RA4 := Lib.hid (RA3.out.below hb)
  have B4 := Lib.hid (below_below B3.out B3.out.size hb)
  clear hb RF3 RA3 RT3 B3
  obtain ⟨z32, hz32⟩ : ∃ z32, z32 = (bv (List.replicate 32 0)).toArray := ⟨_, rfl⟩
  obtain ⟨g, hg⟩ : ∃ g, g = w4.heap.size := ⟨_, rfl⟩
  go_upto_region 5 with fail
  refine wp_region_lit ?_
  refine Great.wpList_allocTo rfl _ rfl (.pointer (some ⟨g, 0, none⟩)) (.cells z32 28) ?x1 ?_
  case x1 => rw [hz32, hg]; kernel_rfl
  refine wpList_nil ?_
  rename_i hK
  refine hK _ _ ?_
  clear hK
  obtain ⟨w5, hw5⟩ : ∃ w5, w5 = w4.alloc (.cells z32 28) := ⟨_, rfl⟩
  rw [← hw5]
  have HA5 := Lib.hid (show Arr w5 g 28 (bv (headOf [])) by rw [hw5, hz32]; exact Arr.new_at _ _ _ _ hg)
  have hB45 : Below g w4 w5 := by rw [hw5, hg]; exact (Below.refl _ _).alloc (Nat.le_refl _) _
  have HGW := Lib.hid (show w.heap.size ≤ g by rw [hg]; exact B4.out.size)
  have RFW := Lib.hid (show ∀ W, Below g w5 W → RS W A0 F from fun W h => by
    have h2 : Below w4.heap.size w4 W := by rw [← hg]; exact hB45.trans h
    exact RF4.out.below h2)
  have RAW := Lib.hid (show ∀ W, Below g w5 W → RC W Aa (lv (mkOf F)) from fun W h => by
    have h2 : Below w4.heap.size w4 W := by rw [← hg]; exact hB45.trans h
    exact RA4.out.below h2)
  have BWW := Lib.hid (show ∀ W, Below g w5 W → Below w.heap.size w W from fun W h => by
    have h2 : Below w4.heap.size w4 W := by rw [← hg]; exact hB45.trans h
    exact below_below B4.out B4.out.size h2)
  clear hw5 hg hz32 hB45 RF4 RA4 B4
  go_upto_block 0 with fail
  go_cut [7] (fun s7 wx => Arr wx g 28 (bv (headOf F)) ∧ Below g w5 wx)
  case first =>
    go_wp2_with fail
    go_loopg [7] N (fun k s7 wr => ∃ i : Nat, i ≤ N ∧ k = N - i ∧ s7 = .int .i64 (i : Int) ∧ Arr wr g 28 (bv (headOf (F.take i))) ∧ Below g w5 wr)
    case atStart => exact ⟨0, Nat.zero_le _, by omega, rfl, HA5.out, Below.refl _ _⟩
    case round =>
      obtain ⟨i, hi, hk, rfl, ha, hb⟩ := hrel
      have HK := Lib.hid hk
      have HA := Lib.hid ha
      have HB := Lib.hid hb
      clear hk ha hb HA5
      by_cases hlt : i < N
      · have hltF : i < F.length := by rw [HFL.out]; exact hlt
        have hltm : i < (mkOf F).length := by rw [HML.out]; exact hlt
        have hN10 := HN.out
        obtain ⟨b0, o0, rfl, _⟩ := (RFW.out wr HB.out).parts (by rw [sv_length]; omega)
        obtain ⟨ba, oa, rfl, _⟩ := (RAW.out wr HB.out).parts (by rw [lv_length _ HMH.out]; omega)
        have hRG : ∀ W, Below g w5 W → W.rangeAt ba (oa + i * 33) (lk (mkOf F)[i]) := fun W h => by
          obtain ⟨ad, e, hc⟩ := RAW.out W h (by rw [lv_length _ HMH.out]; omega)
          cases e
          exact lk_range HMH.out (fun j u hj => by have := hc j u hj; rwa [add_off] at this) i hltm
        have hST : ∀ W, Below g w5 W → W.cell? ⟨b0, o0 + i, none⟩ = some (.string (strB F[i])) := fun W h => by
          obtain ⟨ad, e, hc⟩ := RFW.out W h (by rw [sv_length]; omega)
          cases e
          have := hc i _ (sv_get' F i hltF)
          rwa [add_off] at this
        have hxs : (F[i]).length ≤ 1000000 := HFS.out _ (List.getElem_mem hltF)
        have hT := List.take_succ_eq_append_getElem hltF
        rw [mkOf_get F i hltm hltF, hT, headOf_snoc] at hRG
        have HT := Lib.hid (show headOf (F.take (i + 1)) = nextOf (headOf (F.take i)) F[i] by rw [hT, headOf_snoc])
        generalize F[i] = x at *
        obtain ⟨hd, ehd⟩ : ∃ hd, hd = headOf (F.take i) := ⟨_, rfl⟩
        have hhl : hd.length = 32 := by rw [ehd]; exact headOf_length _
        rw [← ehd] at HA hRG HT
        obtain ⟨h2, eh2⟩ : ∃ h2, h2 = nextOf hd x := ⟨_, rfl⟩
        have hhl2 : h2.length = 32 := by rw [eh2]; exact nextOf_length _ _
        rw [← eh2] at hRG HT
        obtain ⟨hc, ehc⟩ : ∃ hc, hc = (bv hd).toArray := ⟨_, rfl⟩
        have hcs : hc.size = 32 := by rw [ehc, List.size_toArray, bv_length, hhl]
        have hcz : (Try.prog.info? 28).map (·.size) = some hc.size := by rw [hcs]; exact info72
        obtain ⟨hc2, ehc2⟩ : ∃ hc2, hc2 = (bv h2).toArray := ⟨_, rfl⟩
        have hcs2 : hc2.size = 32 := by rw [ehc2, List.size_toArray, bv_length, hhl2]
        have hcz2 : (Try.prog.info? 28).map (·.size) = some hc2.size := by rw [hcs2]; exact info72
        have hone2 : hc2.all (·.oneCell') = true := by rw [ehc2]; exact all_oneCell_toArray (bv_one _)
        have HEQ := Lib.hid (show ∀ W, (Op.equalIn 10000 28 (.agg hc2) (.agg hc2)).run Try.prog W = .ok true W by
          intro W
          rw [ehc2, eq32 h2 h2 hhl2 hhl2, decide_eq_true rfl])
        have HRM := Lib.hid (show ∀ W, Below g w5 W → W.rangeAt ba (oa + i * 33 + 1) (bv h2) from fun W h j v hj => by
          have := hRG W h (j + 1) v (by simpa [lk] using hj)
          rwa [show oa + i * 33 + (j + 1) = oa + i * 33 + 1 + j by omega] at this)
        have HS0 := Lib.hid (show ∀ W, Below g w5 W → W.cell? ⟨ba, oa + i * 33, none⟩ = some (.string (strB x)) from fun W h => hRG W h 0 _ rfl)
        have hi0 : (0 : Int) ≤ (i : Int) := by omega
        have hi1 : (i : Int) < (N : Int) := by omega
        have hi10 : (i : Int) < 10 := by omega
        have HXS := Lib.hid (show (strB x).size ≤ 1000000 by rw [strB_size]; exact hxs)
        have HST := Lib.hid hST
        have HLT := Lib.hid hlt
        have HHL := Lib.hid hhl
        have HHL2 := Lib.hid hhl2
        have EHC := Lib.hid ehc
        have HCS := Lib.hid hcs
        have HCZ := Lib.hid hcz
        have EHC2 := Lib.hid ehc2
        have HCS2 := Lib.hid hcs2
        have HCZ2 := Lib.hid hcz2
        have HONE2 := Lib.hid hone2
        have EH2 := Lib.hid eh2
        have EXB := Lib.hid (strB_toList x)
        obtain ⟨sx, esx⟩ : ∃ sx, sx = strB x := ⟨_, rfl⟩
        rw [← esx] at HXS HST HS0 EXB
        clear hltm hltF hST hRG hxs hT ehd hhl eh2 hhl2 ehc hcs hcz ehc2 hcs2 hcz2 hone2 hlt hi hN10 esx
        go_upto_region 9 with fail
        go_cut [37] (fun s37 wx => Arr wx g 28 (bv h2) ∧ Below g w5 wx)
        case first =>
          refine region_byL (HeadI w5 g 6 hd) [fun v _ => v = .agg hc, (fun v _ => v = .slice (some ⟨b0, o0, none⟩) N c0), (fun v _ => v = .int .i64 (i : Int)), (fun v _ => v = .pointer (some ⟨b0, o0 + i, none⟩)), (fun v _ => v = .string sx), fun v _ => v = .agg hc2, fun _ w' => Arr w' g 28 (bv h2)] (by kernel_rfl) (by kernel_rfl) (by kernel_rfl) rfl (⟨HB.out.drew, HA.out.lt, fun _ => HA.out.drew⟩) ?ok9 ?fin9
          case ok9 =>
            refine ⟨?_, ?_, ?_, ?_, ?_, ?_, ?_, trivial⟩
            · intro l a' w' K hI hcl hsz hn hd hq hK
              have e6 : a'.eval (.tmp 6) = .pointer (some ⟨g, 0, none⟩) := (hq 6 (by kernel_rfl)).trans rfl
              clear hd hq
              have h6 : l.getD 6 false = false := hcl 6 0 (by kernel_rfl) hn
              have hrow : w'.heap[g]? = some (.cells hc 28) := by rw [EHC.out]; exact hI.head h6
              refine op_value (wanted_free _ _ (by rfl)) (v := .agg hc) (w'' := w') ?_ (hK _ _ (hI.set _) (fun _ _ h => h) rfl)
              simp only [execOp, e6, Instr.loadAt, Instr.sureAddr, Sem.run_bind, Sem.run_pure, Result.andThen_ok, run_loadVar_row w' g 28 28 hc (0, 0) _ hrow Try.underlying28 rfl HCZ.out]
            · intro l a' w' K hI hcl hsz hn hd hq hK
              have e0 : a'.eval (.tmp 0) = .slice (some ⟨b0, o0, none⟩) N c0 := (hq 0 (by kernel_rfl)).trans rfl
              clear hd hq hcl hsz hn
              refine op_value (wanted_free _ _ (by rfl)) (v := .slice (some ⟨b0, o0, none⟩) N c0) (w'' := w') ?_ (hK _ _ (hI.set _) (fun _ _ h => h) rfl)
              clear hK
              simp only [execOp, e0]
              have f0 : a'.tmps[0]?.getD undef = .slice (some ⟨b0, o0, none⟩) N c0 := (Array.getD_eq_getD_getElem? ..).symm.trans e0
              clear e0
              first | rfl | (go_simp <;> exact IntWalk.i64_in _ (by omega))
            · intro l a' w' K hI hcl hsz hn hd hq hK
              have e7 : a'.eval (.tmp 7) = .int .i64 (i : Int) := (hq 7 (by kernel_rfl)).trans rfl
              clear hd hq hcl hsz hn
              refine op_value (wanted_free _ _ (by rfl)) (v := .int .i64 (i : Int)) (w'' := w') ?_ (hK _ _ (hI.set _) (fun _ _ h => h) rfl)
              clear hK
              simp only [execOp, e7]
              have f7 : a'.tmps[7]?.getD undef = .int .i64 (i : Int) := (Array.getD_eq_getD_getElem? ..).symm.trans e7
              clear e7
              first | rfl | (go_simp <;> exact IntWalk.i64_in _ (by omega))
            · intro l a' w' K hI hcl hsz hn hd hq hK
              have e33 : a'.eval (.tmp 33) = .slice (some ⟨b0, o0, none⟩) N c0 := (hd 1 33 (by kernel_rfl))
              have e34 : a'.eval (.tmp 34) = .int .i64 (i : Int) := (hd 2 34 (by kernel_rfl))
              clear hd hq hcl hsz hn
              refine op_value (wanted_free _ _ (by rfl)) (v := .pointer (some ⟨b0, o0 + i, none⟩)) (w'' := w') ?_ (hK _ _ (hI.set _) (fun _ _ h => h) rfl)
              clear hK
              simp only [execOp, e33, e34]
              have f33 : a'.tmps[33]?.getD undef = .slice (some ⟨b0, o0, none⟩) N c0 := (Array.getD_eq_getD_getElem? ..).symm.trans e33
              have f34 : a'.tmps[34]?.getD undef = .int .i64 (i : Int) := (Array.getD_eq_getD_getElem? ..).symm.trans e34
              clear e33 e34
              first | rfl | (go_simp <;> exact IntWalk.i64_in _ (by omega))
            · intro l a' w' K hI hcl hsz hn hd hq hK
              have e35 : a'.eval (.tmp 35) = .pointer (some ⟨b0, o0 + i, none⟩) := (hd 3 35 (by kernel_rfl))
              clear hd hq hcl hsz hn
              have hst := HST.out w' hI.below
              refine op_value (wanted_free _ _ (by rfl)) (v := .string sx) (w'' := w') ?_ (hK _ _ (hI.set _) (fun _ _ h => h) rfl)
              clear hK
              simp only [execOp, e35]
              have f35 : a'.tmps[35]?.getD undef = .pointer (some ⟨b0, o0 + i, none⟩) := (Array.getD_eq_getD_getElem? ..).symm.trans e35
              clear e35
              first | rfl | (go_simp <;> exact IntWalk.i64_in _ (by omega))
            · intro l a' w' K hI hcl hsz hn hd hq hK
              have e32 : a'.eval (.tmp 32) = .agg hc := (hd 0 32 (by kernel_rfl))
              have e36 : a'.eval (.tmp 36) = .string sx := (hd 4 36 (by kernel_rfl))
              clear hd hq
              have h6 : l.getD 6 false = false := hcl 6 5 (by kernel_rfl) hn
              refine op_call #[.agg hc, .string sx] (wanted_free _ _ (by rfl)) rfl Try.func22 (by kernel_rfl) rfl (by simp [e32, e36]) ?_
              rw [EHC.out]
              refine (next_any hd sx w' HHL.out HXS.out).mono ?_
              rw [EXB.out, ← EH2.out, ← EHC2.out]
              rintro e w6 ⟨rfl, hb⟩
              have hI2 : HeadI w5 g 6 hd l w6 := ⟨hI.below.trans (hb.mono (Nat.le_of_lt hI.lt)), Nat.lt_of_lt_of_le hI.lt hb.size, fun h => (hI.head h).below hb hI.lt⟩
              refine ⟨_, rfl, hK _ _ (hI2.set _) (fun j u => by match j with | 6 => exact fun h => Arr.below h hb hI.lt | 0 | 1 | 2 | 3 | 4 | 5 => exact fun h => h | _ + 7 => exact fun _ => trivial) rfl⟩
            · intro l a' w' K hI hcl hsz hn hd hq hK
              have e6 : a'.eval (.tmp 6) = .pointer (some ⟨g, 0, none⟩) := (hq 6 (by kernel_rfl)).trans rfl
              have e37 : a'.eval (.tmp 37) = .agg hc2 := (hd 5 37 (by kernel_rfl))
              clear hd hq
              have hrow : w'.heap[g]? = some (.cells hc 28) := by rw [EHC.out]; exact hI.head hn
              have hnew : Arr (w'.setRow g hc2) g 28 (bv h2) := by
                have h := setRow_heap w' g _ hc2 _ _ hrow
                rw [EHC2.out] at h ⊢
                exact h
              have hI2 : HeadI w5 g 6 hd (l.setIfInBounds 6 true) (w'.setRow g hc2) := ⟨below_setRow hI.below g hc2 (Nat.le_refl _), hnew.lt, fun h => by
                exfalso
                rw [Array.getD_eq_getD_getElem?, Array.getElem?_setIfInBounds, if_pos rfl, if_pos (by rw [hsz]; exact of_decide_eq_true (by kernel_rfl))] at h
                simp at h⟩
              refine op_do (wanted_free _ _ (by rfl)) ?_
              refine wp_store_row 28 _ _ rfl g hc2 e6 e37 28 hc hrow HCZ2.out (by rw [HCS.out, HCS2.out]) HONE2.out ?_
              exact hK undef _ hI2 (fun j u => by match j with | 6 => exact fun _ => hnew | 0 | 1 | 2 | 3 | 4 | 5 => exact fun h => h | _ + 7 => exact fun _ => trivial) hnew
          case fin9 =>
            rintro l w' hsz hall hI _ rfl _ rfl _ rfl _ rfl _ rfl _ rfl _ hst6
            simp only [Act.put, List.setIfInBounds_toArray, List.set_cons_zero, List.set_cons_succ, FinGoal]
            go_wp2_with fail
            go_meet
            exact ⟨hst6, hI.below⟩
        case rest =>
          obtain ⟨hA6, hB6⟩ := hcut
          have HA6 := Lib.hid hA6
          have HB6 := Lib.hid hB6
          clear hA6 hB6
          go_upto_region 10 with fail
          refine region_by (fun W => W = wc.drew) [(fun v _ => v = .slice (some ⟨ba, oa, none⟩) N ca), (fun v _ => v = .int .i64 (i : Int)), (fun v _ => v = .pointer (some ⟨ba, oa + i * 33, none⟩)), (fun v _ => v = .pointer (some ⟨ba, oa + i * 33 + 1, none⟩)), fun v _ => v = .agg hc2, fun v _ => v = .agg hc2, fun v _ => v = .bool false, (fun v _ => v = .bool false), (fun v _ => v = .slice (some ⟨ba, oa, none⟩) N ca), (fun v _ => v = .int .i64 (i : Int)), (fun v _ => v = .pointer (some ⟨ba, oa + i * 33, none⟩)), (fun v _ => v = .pointer (some ⟨ba, oa + i * 33, none⟩)), (fun v _ => v = .string sx), (fun v _ => v = .slice (some ⟨b0, o0, none⟩) N c0), (fun v _ => v = .int .i64 (i : Int)), (fun v _ => v = .pointer (some ⟨b0, o0 + i, none⟩)), (fun v _ => v = .string sx), (fun v _ => v = .bool false), (fun v _ => v = .bool false)] (by kernel_rfl) (by kernel_rfl) (by kernel_rfl) rfl (rfl) ?ok10 ?fin10
          case ok10 =>
            refine ⟨?_, ?_, ?_, ?_, ?_, ?_, ?_, ?_, ?_, ?_, ?_, ?_, ?_, ?_, ?_, ?_, ?_, ?_, ?_, trivial⟩
            · intro a' w' K hI hd hq hK
              have e5 : a'.eval (.tmp 5) = .slice (some ⟨ba, oa, none⟩) N ca := (hq 5 (by kernel_rfl)).trans rfl
              clear hd hq
              refine op_value (wanted_free _ _ (by rfl)) (v := .slice (some ⟨ba, oa, none⟩) N ca) (w'' := w') ?_ (hK _ _ hI (fun _ _ h => h) rfl)
              clear hK
              simp only [execOp, e5]
              have f5 : a'.tmps[5]?.getD undef = .slice (some ⟨ba, oa, none⟩) N ca := (Array.getD_eq_getD_getElem? ..).symm.trans e5
              clear e5
              first | rfl | (go_simp <;> exact IntWalk.i64_in _ (by omega))
            · intro a' w' K hI hd hq hK
              have e7 : a'.eval (.tmp 7) = .int .i64 (i : Int) := (hq 7 (by kernel_rfl)).trans rfl
              clear hd hq
              refine op_value (wanted_free _ _ (by rfl)) (v := .int .i64 (i : Int)) (w'' := w') ?_ (hK _ _ hI (fun _ _ h => h) rfl)
              clear hK
              simp only [execOp, e7]
              have f7 : a'.tmps[7]?.getD undef = .int .i64 (i : Int) := (Array.getD_eq_getD_getElem? ..).symm.trans e7
              clear e7
              first | rfl | (go_simp <;> exact IntWalk.i64_in _ (by omega))
            · intro a' w' K hI hd hq hK
              have e38 : a'.eval (.tmp 38) = .slice (some ⟨ba, oa, none⟩) N ca := (hd 0 38 (by kernel_rfl))
              have e39 : a'.eval (.tmp 39) = .int .i64 (i : Int) := (hd 1 39 (by kernel_rfl))
              clear hd hq
              refine op_value (wanted_free _ _ (by rfl)) (v := .pointer (some ⟨ba, oa + i * 33, none⟩)) (w'' := w') ?_ (hK _ _ hI (fun _ _ h => h) rfl)
              clear hK
              simp only [execOp, e38, e39]
              have f38 : a'.tmps[38]?.getD undef = .slice (some ⟨ba, oa, none⟩) N ca := (Array.getD_eq_getD_getElem? ..).symm.trans e38
              have f39 : a'.tmps[39]?.getD undef = .int .i64 (i : Int) := (Array.getD_eq_getD_getElem? ..).symm.trans e39
              clear e38 e39
              first | rfl | (go_simp <;> exact IntWalk.i64_in _ (by omega))
            · intro a' w' K hI hd hq hK
              have e40 : a'.eval (.tmp 40) = .pointer (some ⟨ba, oa + i * 33, none⟩) := (hd 2 40 (by kernel_rfl))
              clear hd hq
              refine op_value (wanted_free _ _ (by rfl)) (v := .pointer (some ⟨ba, oa + i * 33 + 1, none⟩)) (w'' := w') ?_ (hK _ _ hI (fun _ _ h => h) rfl)
              clear hK
              simp only [execOp, e40]
              have f40 : a'.tmps[40]?.getD undef = .pointer (some ⟨ba, oa + i * 33, none⟩) := (Array.getD_eq_getD_getElem? ..).symm.trans e40
              clear e40
              first | rfl | (go_simp <;> exact IntWalk.i64_in _ (by omega))
            · intro a' w' K hI hd hq hK
              have e41 : a'.eval (.tmp 41) = .pointer (some ⟨ba, oa + i * 33 + 1, none⟩) := (hd 3 41 (by kernel_rfl))
              clear hd hq
              subst hI
              refine op_value (wanted_free _ _ (by rfl)) (v := .agg hc2) (w'' := wc.drew) ?_ (hK _ _ rfl (fun _ _ h => h) rfl)
              rw [EHC2.out]
              simp only [execOp, e41, Instr.loadAt, Instr.sureAddr, Sem.run_bind, Sem.run_pure, Result.andThen_ok, run_loadVar_mid wc.drew ba (oa + i * 33 + 1) 28 (bv h2) _ (HRM.out _ HB6.out.drew) Try.underlying28 rfl (by rw [bv_length, HHL2.out]; exact info72)]
            · intro a' w' K hI hd hq hK
              have e6 : a'.eval (.tmp 6) = .pointer (some ⟨g, 0, none⟩) := (hq 6 (by kernel_rfl)).trans rfl
              clear hd hq
              subst hI
              have hrow : wc.drew.heap[g]? = some (.cells hc2 28) := by rw [EHC2.out]; exact HA6.out.drew
              refine op_value (wanted_free _ _ (by rfl)) (v := .agg hc2) (w'' := wc.drew) ?_ (hK _ _ rfl (fun _ _ h => h) rfl)
              simp only [execOp, e6, Instr.loadAt, Instr.sureAddr, Sem.run_bind, Sem.run_pure, Result.andThen_ok, run_loadVar_row wc.drew g 28 28 hc2 (0, 0) _ hrow Try.underlying28 rfl HCZ2.out]
            · intro a' w' K hI hd hq hK
              have e42 : a'.eval (.tmp 42) = .agg hc2 := (hd 4 42 (by kernel_rfl))
              have e43 : a'.eval (.tmp 43) = .agg hc2 := (hd 5 43 (by kernel_rfl))
              clear hd hq
              refine op_value (wanted_free _ _ (by rfl)) (v := .bool false) (w'' := w') ?_ (hK _ _ hI (fun _ _ h => h) rfl)
              simp only [execOp, e42, e43, Sem.run_bind, run_eqGuard_agg w' _ 28 _ _ _ _ (show Try.prog.eqGuardType Try.prog.depth 28 = false by kernel_rfl), run_neq_struct, HEQ.out w', Result.andThen_ok, Sem.run_pure, Bool.not_true]
            · intro a' w' K hI hd hq hK
              have e44 : a'.eval (.tmp 44) = .bool false := (hd 6 44 (by kernel_rfl))
              clear hd hq
              refine op_value (wanted_free _ _ (by rfl)) (v := .bool false) (w'' := w') ?_ (hK _ _ hI (fun _ _ h => h) rfl)
              clear hK
              simp only [execOp, e44]
              have f44 : a'.tmps[44]?.getD undef = .bool false := (Array.getD_eq_getD_getElem? ..).symm.trans e44
              clear e44
              first | rfl | (go_simp <;> exact IntWalk.i64_in _ (by omega))
            · intro a' w' K hI hd hq hK
              have hg := hd 7 45 (by kernel_rfl)
              have e5 : a'.eval (.tmp 5) = .slice (some ⟨ba, oa, none⟩) N ca := (hq 5 (by kernel_rfl)).trans rfl
              clear hd hq
              refine op_value (wanted_on _ a' 7 45 false (by rfl) (by rfl) hg) (v := .slice (some ⟨ba, oa, none⟩) N ca) (w'' := w') ?_ (hK _ _ hI (fun _ _ h => h) rfl)
              clear hK
              simp only [execOp, e5]
              have f5 : a'.tmps[5]?.getD undef = .slice (some ⟨ba, oa, none⟩) N ca := (Array.getD_eq_getD_getElem? ..).symm.trans e5
              clear e5
              first | rfl | (go_simp <;> exact IntWalk.i64_in _ (by omega))
            · intro a' w' K hI hd hq hK
              have hg := hd 7 45 (by kernel_rfl)
              have e7 : a'.eval (.tmp 7) = .int .i64 (i : Int) := (hq 7 (by kernel_rfl)).trans rfl
              clear hd hq
              refine op_value (wanted_on _ a' 7 45 false (by rfl) (by rfl) hg) (v := .int .i64 (i : Int)) (w'' := w') ?_ (hK _ _ hI (fun _ _ h => h) rfl)
              clear hK
              simp only [execOp, e7]
              have f7 : a'.tmps[7]?.getD undef = .int .i64 (i : Int) := (Array.getD_eq_getD_getElem? ..).symm.trans e7
              clear e7
              first | rfl | (go_simp <;> exact IntWalk.i64_in _ (by omega))
            · intro a' w' K hI hd hq hK
              have hg := hd 7 45 (by kernel_rfl)
              have e46 : a'.eval (.tmp 46) = .slice (some ⟨ba, oa, none⟩) N ca := (hd 8 46 (by kernel_rfl))
              have e47 : a'.eval (.tmp 47) = .int .i64 (i : Int) := (hd 9 47 (by kernel_rfl))
              clear hd hq
              refine op_value (wanted_on _ a' 7 45 false (by rfl) (by rfl) hg) (v := .pointer (some ⟨ba, oa + i * 33, none⟩)) (w'' := w') ?_ (hK _ _ hI (fun _ _ h => h) rfl)
              clear hK
              simp only [execOp, e46, e47]
              have f46 : a'.tmps[46]?.getD undef = .slice (some ⟨ba, oa, none⟩) N ca := (Array.getD_eq_getD_getElem? ..).symm.trans e46
              have f47 : a'.tmps[47]?.getD undef = .int .i64 (i : Int) := (Array.getD_eq_getD_getElem? ..).symm.trans e47
              clear e46 e47
              first | rfl | (go_simp <;> exact IntWalk.i64_in _ (by omega))
            · intro a' w' K hI hd hq hK
              have hg := hd 7 45 (by kernel_rfl)
              have e48 : a'.eval (.tmp 48) = .pointer (some ⟨ba, oa + i * 33, none⟩) := (hd 10 48 (by kernel_rfl))
              clear hd hq
              refine op_value (wanted_on _ a' 7 45 false (by rfl) (by rfl) hg) (v := .pointer (some ⟨ba, oa + i * 33, none⟩)) (w'' := w') ?_ (hK _ _ hI (fun _ _ h => h) rfl)
              clear hK
              simp only [execOp, e48]
              have f48 : a'.tmps[48]?.getD undef = .pointer (some ⟨ba, oa + i * 33, none⟩) := (Array.getD_eq_getD_getElem? ..).symm.trans e48
              clear e48
              first | rfl | (go_simp <;> exact IntWalk.i64_in _ (by omega))
            · intro a' w' K hI hd hq hK
              have hg := hd 7 45 (by kernel_rfl)
              have e49 : a'.eval (.tmp 49) = .pointer (some ⟨ba, oa + i * 33, none⟩) := (hd 11 49 (by kernel_rfl))
              clear hd hq
              have hs0 := HS0.out wc HB6.out
              refine op_value (wanted_on _ a' 7 45 false (by rfl) (by rfl) hg) (v := .string sx) (w'' := w') ?_ (hK _ _ hI (fun _ _ h => h) rfl)
              clear hK
              simp only [execOp, e49]
              have f49 : a'.tmps[49]?.getD undef = .pointer (some ⟨ba, oa + i * 33, none⟩) := (Array.getD_eq_getD_getElem? ..).symm.trans e49
              clear e49
              first | rfl | (go_simp <;> exact IntWalk.i64_in _ (by omega))
            · intro a' w' K hI hd hq hK
              have hg := hd 7 45 (by kernel_rfl)
              have e0 : a'.eval (.tmp 0) = .slice (some ⟨b0, o0, none⟩) N c0 := (hq 0 (by kernel_rfl)).trans rfl
              clear hd hq
              refine op_value (wanted_on _ a' 7 45 false (by rfl) (by rfl) hg) (v := .slice (some ⟨b0, o0, none⟩) N c0) (w'' := w') ?_ (hK _ _ hI (fun _ _ h => h) rfl)
              clear hK
              simp only [execOp, e0]
              have f0 : a'.tmps[0]?.getD undef = .slice (some ⟨b0, o0, none⟩) N c0 := (Array.getD_eq_getD_getElem? ..).symm.trans e0
              clear e0
              first | rfl | (go_simp <;> exact IntWalk.i64_in _ (by omega))
            · intro a' w' K hI hd hq hK
              have hg := hd 7 45 (by kernel_rfl)
              have e7 : a'.eval (.tmp 7) = .int .i64 (i : Int) := (hq 7 (by kernel_rfl)).trans rfl
              clear hd hq
              refine op_value (wanted_on _ a' 7 45 false (by rfl) (by rfl) hg) (v := .int .i64 (i : Int)) (w'' := w') ?_ (hK _ _ hI (fun _ _ h => h) rfl)
              clear hK
              simp only [execOp, e7]
              have f7 : a'.tmps[7]?.getD undef = .int .i64 (i : Int) := (Array.getD_eq_getD_getElem? ..).symm.trans e7
              clear e7
              first | rfl | (go_simp <;> exact IntWalk.i64_in _ (by omega))
            · intro a' w' K hI hd hq hK
              have hg := hd 7 45 (by kernel_rfl)
              have e51 : a'.eval (.tmp 51) = .slice (some ⟨b0, o0, none⟩) N c0 := (hd 13 51 (by kernel_rfl))
              have e52 : a'.eval (.tmp 52) = .int .i64 (i : Int) := (hd 14 52 (by kernel_rfl))
              clear hd hq
              refine op_value (wanted_on _ a' 7 45 false (by rfl) (by rfl) hg) (v := .pointer (some ⟨b0, o0 + i, none⟩)) (w'' := w') ?_ (hK _ _ hI (fun _ _ h => h) rfl)
              clear hK
              simp only [execOp, e51, e52]
              have f51 : a'.tmps[51]?.getD undef = .slice (some ⟨b0, o0, none⟩) N c0 := (Array.getD_eq_getD_getElem? ..).symm.trans e51
              have f52 : a'.tmps[52]?.getD undef = .int .i64 (i : Int) := (Array.getD_eq_getD_getElem? ..).symm.trans e52
              clear e51 e52
              first | rfl | (go_simp <;> exact IntWalk.i64_in _ (by omega))
            · intro a' w' K hI hd hq hK
              have hg := hd 7 45 (by kernel_rfl)
              have e53 : a'.eval (.tmp 53) = .pointer (some ⟨b0, o0 + i, none⟩) := (hd 15 53 (by kernel_rfl))
              clear hd hq
              have hst := HST.out wc HB6.out
              refine op_value (wanted_on _ a' 7 45 false (by rfl) (by rfl) hg) (v := .string sx) (w'' := w') ?_ (hK _ _ hI (fun _ _ h => h) rfl)
              clear hK
              simp only [execOp, e53]
              have f53 : a'.tmps[53]?.getD undef = .pointer (some ⟨b0, o0 + i, none⟩) := (Array.getD_eq_getD_getElem? ..).symm.trans e53
              clear e53
              first | rfl | (go_simp <;> exact IntWalk.i64_in _ (by omega))
            · intro a' w' K hI hd hq hK
              have hg := hd 7 45 (by kernel_rfl)
              have e50 : a'.eval (.tmp 50) = .string sx := (hd 12 50 (by kernel_rfl))
              have e54 : a'.eval (.tmp 54) = .string sx := (hd 16 54 (by kernel_rfl))
              clear hd hq
              refine op_value (wanted_on _ a' 7 45 false (by rfl) (by rfl) hg) (v := .bool false) (w'' := w') ?_ (hK _ _ hI (fun _ _ h => h) rfl)
              clear hK
              simp only [execOp, e50, e54]
              have f50 : a'.tmps[50]?.getD undef = .string sx := (Array.getD_eq_getD_getElem? ..).symm.trans e50
              have f54 : a'.tmps[54]?.getD undef = .string sx := (Array.getD_eq_getD_getElem? ..).symm.trans e54
              clear e50 e54
              first | rfl | (go_simp <;> exact IntWalk.i64_in _ (by omega))
            · intro a' w' K hI hd hq hK
              have e45 : a'.eval (.tmp 45) = .bool false := (hd 7 45 (by kernel_rfl))
              have e55 : a'.eval (.tmp 55) = .bool false := (hd 17 55 (by kernel_rfl))
              clear hd hq
              refine op_value (wanted_free _ _ (by rfl)) (v := .bool false) (w'' := w') ?_ (hK _ _ hI (fun _ _ h => h) rfl)
              clear hK
              simp only [execOp, e45, e55]
              have f45 : a'.tmps[45]?.getD undef = .bool false := (Array.getD_eq_getD_getElem? ..).symm.trans e45
              have f55 : a'.tmps[55]?.getD undef = .bool false := (Array.getD_eq_getD_getElem? ..).symm.trans e55
              clear e45 e55
              first | rfl | (go_simp <;> exact IntWalk.i64_in _ (by omega))
          case fin10 =>
            rintro w' hI _ rfl _ rfl _ rfl _ rfl _ rfl _ rfl _ rfl _ rfl _ rfl _ rfl _ rfl _ rfl _ rfl _ rfl _ rfl _ rfl _ rfl _ rfl _ rfl
            simp only [Act.put, List.setIfInBounds_toArray, List.set_cons_zero, List.set_cons_succ, FinGoal]
            subst hI
            go_wp2_with fail
            go_roundg (N - (i + 1))
            case measure => have := HK.out; have := HLT.out; omega
            case rel => exact ⟨i + 1, HLT.out, rfl, by go_num, by rw [HT.out]; exact HA6.out.drew, HB6.out.drew⟩
      · obtain rfl : i = N := by omega
        rw [headOf_all F i HFL.out.symm] at HA
        go_wp2_with fail
        go_meet
        exact ⟨HA.out, HB.out⟩
  case rest =>
    obtain ⟨ha, hb⟩ := hcut
    have HA6 := Lib.hid ha
    have HB6 := Lib.hid hb
    clear ha hb HA5
    have RF6 := Lib.hid (RFW.out _ HB6.out)
    have RA6 := Lib.hid (RAW.out _ HB6.out)
    have BW6 := Lib.hid (BWW.out _ HB6.out)
    clear RFW RAW BWW HB6
    obtain ⟨mo, emo⟩ : ∃ mo, mo = more.data.toList := ⟨_, rfl⟩
    have EMO := Lib.hid (show more = strB mo by rw [emo, strB_data])
    clear emo
    obtain ⟨s, es⟩ : ∃ s, s = mo.take 100 := ⟨_, rfl⟩
    have hfs : fewOf [mo] 1 = [s] := by rw [es]; rfl
    have hsl : s.length ≤ 100 := by rw [es, List.length_take]; omega
    have HFE := Lib.hid hfs
    have HSL := Lib.hid hsl
    clear es hfs hsl
    go_wp2_with fail
    refine (few19_any (some ⟨wc.heap.size, 0, none⟩) 1 1 [mo] 1 _ rfl (by omega) (by rw [EMO.out]; exact RC_newL wc [.string (strB mo)] 9)).mono ?_
    rw [HFE.out, show min 1 [mo].length = 1 from rfl]
    rintro e w7 ⟨v7, rfl, ho, hb⟩
    obtain ⟨g7, c7, rfl, _, _⟩ := own_form ho (by omega)
    have k7 : w7.cell? ⟨g7, 0, none⟩ = some (.string (strB s)) := by
      obtain ⟨ad, e7, hc7⟩ := own_RC ho (by simp [sv])
      cases e7
      have := hc7 0 _ rfl
      rwa [add_off] at this
    have hB67 : Below wc.heap.size wc w7 := below_below ((Below.refl _ _).alloc (Nat.le_refl _) _) (by simp) hb
    have RF7 := Lib.hid (RF6.out.below hB67)
    have RA7 := Lib.hid (RA6.out.below hB67)
    have HA7 := Lib.hid (Arr.below HA6.out hB67 (Arr.lt HA6.out))
    have B7 := Lib.hid (below_below BW6.out BW6.out.size hB67)
    clear ho hb hB67 RF6 RA6 HA6 BW6
    go_wp2_with (at_builtin; refine append_any rfl _ _ 22 rfl w7.heap.size 9 (.string ⟨#[]⟩) 1 16 Try.underlying22 infoS rfl (by omega) (by omega) _ 0 [] rfl (World.ownsRow_lit w7 #[] 0 (Nat.le_refl _) (by simp [maxLen]) rfl) A0 N c0 (sv F) rfl ?c1 ?c2 (sv_one _) ?c3 ?c4 ?_)
    case c1 => rw [sv_length, HFL.out, Nat.mul_one]
    case c2 => exact RF7.out.below ((Below.refl _ _).alloc (Nat.le_refl _) _)
    case c3 => have := HN.out; omega
    case c4 => simp
    intro v8 w8 ho8 hg8 hat8
    have hB78 : Below w7.heap.size w7 w8 := ((Below.refl _ _).alloc (Nat.le_refl _) _).grown hg8 (by simp) (fun k hk => by simp [Value.ownBlock] at hk; omega)
    have HO8 := Lib.hid ho8
    have HB78 := Lib.hid hB78
    clear ho8 hg8 hat8 hB78 k7
    go_wp2_with (at_builtin; refine append_any rfl _ _ 22 rfl w7.heap.size 9 (.string ⟨#[]⟩) 1 16 Try.underlying22 infoS rfl (by omega) (by omega) v8 N (sv F) rfl (HO8.out.alloc _) _ 1 _ [.string (strB s)] rfl rfl (RC_newL _ [.string (strB s)] 9) (by intro u hu; simp at hu; rw [hu]; rfl) ?c1 ?c2 ?_)
    case c1 => have := HN.out; omega
    case c2 => have := HB78.out.size; simp; omega
    intro v9 w9 ho9 hg9 hat9
    have hB79 : Below w7.heap.size w7 w9 := (HB78.out.alloc HB78.out.size _).grown hg9 (by have := HB78.out.size; simp; omega) (fun k hk => (World.ownsRow.lt HO8.out k hk).1)
    have ho9' : w9.ownsRow w7.heap.size 9 1 v9 (N + 1) (sv (F ++ [s])) := by rw [sv_append]; exact ho9
    obtain ⟨A9, c9, rfl, _⟩ := own_slice ho9'
    have R9 := Lib.hid (own_RC ho9')
    have RF9 := Lib.hid (RF7.out.below hB79)
    have RA9 := Lib.hid (RA7.out.below hB79)
    have HA9 := Lib.hid (Arr.below HA7.out hB79 (Arr.lt HA7.out))
    have B9 := Lib.hid (below_below B7.out B7.out.size hB79)
    clear ho9 ho9' hg9 hat9 hB79 HO8 HB78 RF7 RA7 HA7 B7
    have hGl : (F ++ [s]).length = N + 1 := by rw [List.length_append, HFL.out]; rfl
    have hGs : ∀ x ∈ F ++ [s], x.length ≤ 1000000 := fun x hx => by
      rcases List.mem_append.1 hx with h | h
      · exact HFS.out x h
      · simp at h; rw [h]; have := HSL.out; omega
    have HGL := Lib.hid hGl
    have HGS := Lib.hid hGs
    clear hGl hGs
    go_wp2_with fail
    refine (make_any A9 (N + 1) c9 (F ++ [s]) w9 HGL.out (by have := HN.out; omega) HGS.out R9.out).mono ?_
    rw [HGL.out]
    rintro e w10 ⟨vb, rfl, ho, hb⟩
    obtain ⟨Ab, cb, rfl, _⟩ := own_slice ho
    have hRB := own_RC ho
    have hGH := mkOf_heads (F ++ [s])
    have hGm : (mkOf (F ++ [s])).length = N + 1 := by rw [mkOf_length, HGL.out]
    obtain ⟨bb, ob, rfl, _⟩ := hRB.parts (by rw [lv_length _ hGH, hGm]; omega)
    obtain ⟨hF, ehF⟩ : ∃ hF, hF = headOf F := ⟨_, rfl⟩
    obtain ⟨h3, eh3⟩ : ∃ h3, h3 = nextOf hF s := ⟨_, rfl⟩
    have hGN : ∀ h : N < (mkOf (F ++ [s])).length, (mkOf (F ++ [s]))[N] = (s, h3) := fun h => by
      rw [mkOf_get (F ++ [s]) N h (by rw [HGL.out]; omega), List.take_of_length_le (by rw [HGL.out]; exact Nat.le_refl _), headOf_snoc, ← ehF, ← eh3]
      congr 1
      rw [List.getElem_append_right (by rw [HFL.out]; exact Nat.le_refl _)]
      simp
    have hhF : hF.length = 32 := by rw [ehF]; exact headOf_length _
    have hh3 : h3.length = 32 := by rw [eh3]; exact nextOf_length _ _
    have HBW := Lib.hid (show ∀ W, Below w10.heap.size w10 W → RC W (some ⟨bb, ob, none⟩) (lv (mkOf (F ++ [s]))) from fun W h => hRB.below h)
    have HAW := Lib.hid (show ∀ W, Below w10.heap.size w10 W → RC W Aa (lv (mkOf F)) from fun W h => (RA9.out.below hb).below h)
    have HRM := Lib.hid (show ∀ W, Below w10.heap.size w10 W → W.rangeAt bb (ob + N * 33 + 1) (bv h3) from fun W h j v hj => by
      obtain ⟨ad, e, hc⟩ := hRB.below h (by rw [lv_length _ hGH, hGm]; omega)
      cases e
      have h2 := lk_range hGH (fun j u hj => by have := hc j u hj; rwa [add_off] at this) N (by rw [hGm]; omega)
      rw [hGN] at h2
      have := h2 (j + 1) v (by simpa [lk] using hj)
      rwa [show ob + N * 33 + (j + 1) = ob + N * 33 + 1 + j by omega] at this)
    obtain ⟨hcF, ehcF⟩ : ∃ hcF, hcF = (bv hF).toArray := ⟨_, rfl⟩
    have HROW := Lib.hid (show ∀ W, Below w10.heap.size w10 W → W.heap[g]? = some (.cells hcF 28) from fun W h => by
      rw [ehcF, ehF]
      exact (Arr.below (Arr.below HA9.out hb (Arr.lt HA9.out)) h (Nat.lt_of_lt_of_le (Arr.lt HA9.out) hb.size)))
    have hcsF : hcF.size = 32 := by rw [ehcF, List.size_toArray, bv_length, hhF]
    have HCZF := Lib.hid (show (Try.prog.info? 28).map (·.size) = some hcF.size by rw [hcsF]; exact info72)
    obtain ⟨hc3, ehc3⟩ : ∃ hc3, hc3 = (bv h3).toArray := ⟨_, rfl⟩
    have HEQ := Lib.hid (show ∀ W, (Op.equalIn 10000 28 (.agg hc3) (.agg hc3)).run Try.prog W = .ok true W by
      intro W
      rw [ehc3, eq32 h3 h3 hh3 hh3, decide_eq_true rfl])
    have B10 := Lib.hid (below_below B9.out B9.out.size hb)
    have EHCF := Lib.hid ehcF
    have EHC3 := Lib.hid ehc3
    have HHF := Lib.hid hhF
    have HH3 := Lib.hid hh3
    have EH3 := Lib.hid eh3
    have HGM := Lib.hid hGm
    have HGH := Lib.hid hGH
    have HGT := Lib.hid (mkOf_texts (F ++ [s]) 1000000 HGS.out)
    have HTK := Lib.hid (show (mkOf F).take (min N (N + 1)) = (mkOf (F ++ [s])).take (min N (N + 1)) by
      rw [show min N (N + 1) = F.length by rw [HFL.out]; omega, mkOf_take, List.take_of_length_le (by rw [mkOf_length]; exact Nat.le_refl _)])
    have HSB := Lib.hid (strB_toList s)
    have HSZ := Lib.hid (show (strB s).size ≤ 1000000 by rw [strB_size]; have := HSL.out; omega)
    obtain ⟨ss, ess⟩ : ∃ ss, ss = strB s := ⟨_, rfl⟩
    rw [← ess] at HSB HSZ ⊢
    have hn0 : (0 : Int) ≤ (N : Int) := by omega
    have hn10 : (N : Int) ≤ 10 := by have := HN.out; omega
    have hn1 : (N : Int) < ((N + 1 : Nat) : Int) := by omega
    clear ho hb hRB hGH hGm ehF eh3 hGN hhF hh3 ehcF hcsF ehc3 ess R9 RF9 RA9 HA9 B9
    go_upto_region 14 with fail
    refine region_by (fun W => Below w10.heap.size w10 W ∧ Below w.heap.size w W) [(fun v _ => v = .slice (some ⟨bb, ob, none⟩) (N + 1) cb), (fun v _ => v = .int .i64 ((N + 1 : Nat) : Int)), (fun v _ => v = .slice A0 N c0), (fun v _ => v = .int .i64 (N : Int)), (fun v _ => v = .int .i64 ((N : Int) + 1)), (fun v _ => v = .bool true), (fun v _ => v = .bool true), (fun v _ => v = .slice (some ⟨bb, ob, none⟩) (N + 1) cb), (fun v _ => v = .slice A0 N c0), (fun v _ => v = .int .i64 (N : Int)), (fun v _ => v = .pointer (some ⟨bb, ob + N * 33, none⟩)), (fun v _ => v = .pointer (some ⟨bb, ob + N * 33 + 1, none⟩)), fun v _ => v = .agg hc3, fun v _ => v = .agg hcF, (fun v _ => v = .string ss), fun v _ => v = .agg hc3, fun v _ => v = .bool true, (fun v _ => v = (.bool true)), (fun v _ => v = (.bool true)), (fun v _ => v = .slice Aa N ca), (fun v _ => v = .slice (some ⟨bb, ob, none⟩) (N + 1) cb), fun v _ => v = .bool true, (fun v _ => v = (.bool true)), (fun v _ => v = (.bool true)), fun v _ => v = .bool true, (fun v _ => v = (.bool true)), (fun v _ => v = (.bool true))] (by kernel_rfl) (by kernel_rfl) (by kernel_rfl) rfl (⟨(Below.refl _ _).drew, B10.out.drew⟩) ?ok14 ?fin14
    case ok14 =>
      refine ⟨?_, ?_, ?_, ?_, ?_, ?_, ?_, ?_, ?_, ?_, ?_, ?_, ?_, ?_, ?_, ?_, ?_, ?_, ?_, ?_, ?_, ?_, ?_, ?_, ?_, ?_, ?_, trivial⟩
      · intro a' w' K hI hd hq hK
        have e9 : a'.eval (.tmp 9) = .slice (some ⟨bb, ob, none⟩) (N + 1) cb := (hq 9 (by kernel_rfl)).trans rfl
        clear hd hq
        refine op_value (wanted_free _ _ (by rfl)) (v := .slice (some ⟨bb, ob, none⟩) (N + 1) cb) (w'' := w') ?_ (hK _ _ hI (fun _ _ h => h) rfl)
        clear hK
        simp only [execOp, e9]
        have f9 : a'.tmps[9]?.getD undef = .slice (some ⟨bb, ob, none⟩) (N + 1) cb := (Array.getD_eq_getD_getElem? ..).symm.trans e9
        clear e9
        first | rfl | (go_simp <;> exact IntWalk.i64_in _ (by omega))
      · intro a' w' K hI hd hq hK
        have e69 : a'.eval (.tmp 69) = .slice (some ⟨bb, ob, none⟩) (N + 1) cb := (hd 0 69 (by kernel_rfl))
        clear hd hq
        refine op_value (wanted_free _ _ (by rfl)) (v := .int .i64 ((N + 1 : Nat) : Int)) (w'' := w') ?_ (hK _ _ hI (fun _ _ h => h) rfl)
        clear hK
        simp only [execOp, e69]
        have f69 : a'.tmps[69]?.getD undef = .slice (some ⟨bb, ob, none⟩) (N + 1) cb := (Array.getD_eq_getD_getElem? ..).symm.trans e69
        clear e69
        first | rfl | (go_simp <;> exact IntWalk.i64_in _ (by omega))
      · intro a' w' K hI hd hq hK
        have e0 : a'.eval (.tmp 0) = .slice A0 N c0 := (hq 0 (by kernel_rfl)).trans rfl
        clear hd hq
        refine op_value (wanted_free _ _ (by rfl)) (v := .slice A0 N c0) (w'' := w') ?_ (hK _ _ hI (fun _ _ h => h) rfl)
        clear hK
        simp only [execOp, e0]
        have f0 : a'.tmps[0]?.getD undef = .slice A0 N c0 := (Array.getD_eq_getD_getElem? ..).symm.trans e0
        clear e0
        first | rfl | (go_simp <;> exact IntWalk.i64_in _ (by omega))
      · intro a' w' K hI hd hq hK
        have e71 : a'.eval (.tmp 71) = .slice A0 N c0 := (hd 2 71 (by kernel_rfl))
        clear hd hq
        refine op_value (wanted_free _ _ (by rfl)) (v := .int .i64 (N : Int)) (w'' := w') ?_ (hK _ _ hI (fun _ _ h => h) rfl)
        clear hK
        simp only [execOp, e71]
        have f71 : a'.tmps[71]?.getD undef = .slice A0 N c0 := (Array.getD_eq_getD_getElem? ..).symm.trans e71
        clear e71
        first | rfl | (go_simp <;> exact IntWalk.i64_in _ (by omega))
      · intro a' w' K hI hd hq hK
        have e72 : a'.eval (.tmp 72) = .int .i64 (N : Int) := (hd 3 72 (by kernel_rfl))
        clear hd hq
        refine op_value (wanted_free _ _ (by rfl)) (v := .int .i64 ((N : Int) + 1)) (w'' := w') ?_ (hK _ _ hI (fun _ _ h => h) rfl)
        clear hK
        simp only [execOp, e72]
        have f72 : a'.tmps[72]?.getD undef = .int .i64 (N : Int) := (Array.getD_eq_getD_getElem? ..).symm.trans e72
        clear e72
        first | rfl | (go_simp <;> exact IntWalk.i64_in _ (by omega))
      · intro a' w' K hI hd hq hK
        have e70 : a'.eval (.tmp 70) = .int .i64 ((N + 1 : Nat) : Int) := (hd 1 70 (by kernel_rfl))
        have e73 : a'.eval (.tmp 73) = .int .i64 ((N : Int) + 1) := (hd 4 73 (by kernel_rfl))
        clear hd hq
        refine op_value (wanted_free _ _ (by rfl)) (v := .bool true) (w'' := w') ?_ (hK _ _ hI (fun _ _ h => h) rfl)
        clear hK
        simp only [execOp, e70, e73]
        have f70 : a'.tmps[70]?.getD undef = .int .i64 ((N + 1 : Nat) : Int) := (Array.getD_eq_getD_getElem? ..).symm.trans e70
        have f73 : a'.tmps[73]?.getD undef = .int .i64 ((N : Int) + 1) := (Array.getD_eq_getD_getElem? ..).symm.trans e73
        clear e70 e73
        first | rfl | (go_simp <;> exact IntWalk.i64_in _ (by omega))
      · intro a' w' K hI hd hq hK
        have e74 : a'.eval (.tmp 74) = .bool true := (hd 5 74 (by kernel_rfl))
        clear hd hq
        refine op_value (wanted_free _ _ (by rfl)) (v := .bool true) (w'' := w') ?_ (hK _ _ hI (fun _ _ h => h) rfl)
        clear hK
        simp only [execOp, e74]
        have f74 : a'.tmps[74]?.getD undef = .bool true := (Array.getD_eq_getD_getElem? ..).symm.trans e74
        clear e74
        first | rfl | (go_simp <;> exact IntWalk.i64_in _ (by omega))
      · intro a' w' K hI hd hq hK
        have hg := hd 6 75 (by kernel_rfl)
        have e9 : a'.eval (.tmp 9) = .slice (some ⟨bb, ob, none⟩) (N + 1) cb := (hq 9 (by kernel_rfl)).trans rfl
        clear hd hq
        refine op_value (wanted_on _ a' 6 75 true (by rfl) (by rfl) hg) (v := .slice (some ⟨bb, ob, none⟩) (N + 1) cb) (w'' := w') ?_ (hK _ _ hI (fun _ _ h => h) rfl)
        clear hK
        simp only [execOp, e9]
        have f9 : a'.tmps[9]?.getD undef = .slice (some ⟨bb, ob, none⟩) (N + 1) cb := (Array.getD_eq_getD_getElem? ..).symm.trans e9
        clear e9
        first | rfl | (go_simp <;> exact IntWalk.i64_in _ (by omega))
      · intro a' w' K hI hd hq hK
        have hg := hd 6 75 (by kernel_rfl)
        have e0 : a'.eval (.tmp 0) = .slice A0 N c0 := (hq 0 (by kernel_rfl)).trans rfl
        clear hd hq
        refine op_value (wanted_on _ a' 6 75 true (by rfl) (by rfl) hg) (v := .slice A0 N c0) (w'' := w') ?_ (hK _ _ hI (fun _ _ h => h) rfl)
        clear hK
        simp only [execOp, e0]
        have f0 : a'.tmps[0]?.getD undef = .slice A0 N c0 := (Array.getD_eq_getD_getElem? ..).symm.trans e0
        clear e0
        first | rfl | (go_simp <;> exact IntWalk.i64_in _ (by omega))
      · intro a' w' K hI hd hq hK
        have hg := hd 6 75 (by kernel_rfl)
        have e77 : a'.eval (.tmp 77) = .slice A0 N c0 := (hd 8 77 (by kernel_rfl))
        clear hd hq
        refine op_value (wanted_on _ a' 6 75 true (by rfl) (by rfl) hg) (v := .int .i64 (N : Int)) (w'' := w') ?_ (hK _ _ hI (fun _ _ h => h) rfl)
        clear hK
        simp only [execOp, e77]
        have f77 : a'.tmps[77]?.getD undef = .slice A0 N c0 := (Array.getD_eq_getD_getElem? ..).symm.trans e77
        clear e77
        first | rfl | (go_simp <;> exact IntWalk.i64_in _ (by omega))
      · intro a' w' K hI hd hq hK
        have hg := hd 6 75 (by kernel_rfl)
        have e76 : a'.eval (.tmp 76) = .slice (some ⟨bb, ob, none⟩) (N + 1) cb := (hd 7 76 (by kernel_rfl))
        have e78 : a'.eval (.tmp 78) = .int .i64 (N : Int) := (hd 9 78 (by kernel_rfl))
        clear hd hq
        have hn2 : ¬ ((N : Int) + 1 ≤ (N : Int)) := by omega
        refine op_value (wanted_on _ a' 6 75 true (by rfl) (by rfl) hg) (v := .pointer (some ⟨bb, ob + N * 33, none⟩)) (w'' := w') ?_ (hK _ _ hI (fun _ _ h => h) rfl)
        clear hK
        simp only [execOp, e76, e78]
        have f76 : a'.tmps[76]?.getD undef = .slice (some ⟨bb, ob, none⟩) (N + 1) cb := (Array.getD_eq_getD_getElem? ..).symm.trans e76
        have f78 : a'.tmps[78]?.getD undef = .int .i64 (N : Int) := (Array.getD_eq_getD_getElem? ..).symm.trans e78
        clear e76 e78
        first | rfl | (go_simp <;> exact IntWalk.i64_in _ (by omega))
      · intro a' w' K hI hd hq hK
        have hg := hd 6 75 (by kernel_rfl)
        have e79 : a'.eval (.tmp 79) = .pointer (some ⟨bb, ob + N * 33, none⟩) := (hd 10 79 (by kernel_rfl))
        clear hd hq
        refine op_value (wanted_on _ a' 6 75 true (by rfl) (by rfl) hg) (v := .pointer (some ⟨bb, ob + N * 33 + 1, none⟩)) (w'' := w') ?_ (hK _ _ hI (fun _ _ h => h) rfl)
        clear hK
        simp only [execOp, e79]
        have f79 : a'.tmps[79]?.getD undef = .pointer (some ⟨bb, ob + N * 33, none⟩) := (Array.getD_eq_getD_getElem? ..).symm.trans e79
        clear e79
        first | rfl | (go_simp <;> exact IntWalk.i64_in _ (by omega))
      · intro a' w' K hI hd hq hK
        have hg := hd 6 75 (by kernel_rfl)
        have e80 : a'.eval (.tmp 80) = .pointer (some ⟨bb, ob + N * 33 + 1, none⟩) := (hd 11 80 (by kernel_rfl))
        clear hd hq
        refine op_value (wanted_on _ a' 6 75 true (by rfl) (by rfl) hg) (v := .agg hc3) (w'' := w') ?_ (hK _ _ hI (fun _ _ h => h) rfl)
        rw [EHC3.out]
        simp only [execOp, e80, Instr.loadAt, Instr.sureAddr, Sem.run_bind, Sem.run_pure, Result.andThen_ok, run_loadVar_mid w' bb (ob + N * 33 + 1) 28 (bv h3) _ (HRM.out _ hI.1) Try.underlying28 rfl (by rw [bv_length, HH3.out]; exact info72)]
      · intro a' w' K hI hd hq hK
        have hg := hd 6 75 (by kernel_rfl)
        have e6 : a'.eval (.tmp 6) = .pointer (some ⟨g, 0, none⟩) := (hq 6 (by kernel_rfl)).trans rfl
        clear hd hq
        refine op_value (wanted_on _ a' 6 75 true (by rfl) (by rfl) hg) (v := .agg hcF) (w'' := w') ?_ (hK _ _ hI (fun _ _ h => h) rfl)
        simp only [execOp, e6, Instr.loadAt, Instr.sureAddr, Sem.run_bind, Sem.run_pure, Result.andThen_ok, run_loadVar_row w' g 28 28 hcF (0, 0) _ (HROW.out _ hI.1) Try.underlying28 rfl HCZF.out]
      · intro a' w' K hI hd hq hK
        have hg := hd 6 75 (by kernel_rfl)
        have e8 : a'.eval (.tmp 8) = .string ss := (hq 8 (by kernel_rfl)).trans rfl
        clear hd hq
        refine op_value (wanted_on _ a' 6 75 true (by rfl) (by rfl) hg) (v := .string ss) (w'' := w') ?_ (hK _ _ hI (fun _ _ h => h) rfl)
        clear hK
        simp only [execOp, e8]
        have f8 : a'.tmps[8]?.getD undef = .string ss := (Array.getD_eq_getD_getElem? ..).symm.trans e8
        clear e8
        first | rfl | (go_simp <;> exact IntWalk.i64_in _ (by omega))
      · intro a' w' K hI hd hq hK
        have hg := hd 6 75 (by kernel_rfl)
        have e82 : a'.eval (.tmp 82) = .agg hcF := (hd 13 82 (by kernel_rfl))
        have e83 : a'.eval (.tmp 83) = .string ss := (hd 14 83 (by kernel_rfl))
        clear hd hq
        refine op_call #[.agg hcF, .string ss] (wanted_on _ a' 6 75 true (by rfl) (by rfl) hg) rfl Try.func22 (by kernel_rfl) rfl (by simp [e82, e83]) ?_
        rw [EHCF.out]
        refine (next_any hF ss w' HHF.out HSZ.out).mono ?_
        rw [HSB.out, ← EH3.out, ← EHC3.out]
        rintro e w6 ⟨rfl, hb⟩
        refine ⟨_, rfl, hK _ _ ⟨below_below hI.1 hI.1.size hb, below_below hI.2 hI.2.size hb⟩ (fun j u => by match j with | 0 | 1 | 2 | 3 | 4 | 5 | 6 | 7 | 8 | 9 | 10 | 11 | 12 | 13 | 14 | 15 | 16 | 17 | 18 | 19 | 20 | 21 | 22 | 23 | 24 | 25 | 26 => exact fun h => h | _ + 27 => exact fun _ => trivial) rfl⟩
      · intro a' w' K hI hd hq hK
        have hg := hd 6 75 (by kernel_rfl)
        have e81 : a'.eval (.tmp 81) = .agg hc3 := (hd 12 81 (by kernel_rfl))
        have e84 : a'.eval (.tmp 84) = .agg hc3 := (hd 15 84 (by kernel_rfl))
        clear hd hq
        refine op_value (wanted_on _ a' 6 75 true (by rfl) (by rfl) hg) (v := .bool true) (w'' := w') ?_ (hK _ _ hI (fun _ _ h => h) rfl)
        simp only [execOp, e81, e84, Sem.run_bind, run_eqGuard_agg w' _ 28 _ _ _ _ (show Try.prog.eqGuardType Try.prog.depth 28 = false by kernel_rfl), run_eql_struct, HEQ.out w', Result.andThen_ok, Sem.run_pure]
      · intro a' w' K hI hd hq hK
        have e75 : a'.eval (.tmp 75) = .bool true := (hd 6 75 (by kernel_rfl))
        have e85 : a'.eval (.tmp 85) = .bool true := (hd 16 85 (by kernel_rfl))
        clear hd hq
        refine op_value (wanted_free _ _ (by rfl)) (v := (.bool true)) (w'' := w') ?_ (hK _ _ hI (fun _ _ h => h) rfl)
        clear hK
        simp only [execOp, e75, e85]
        have f75 : a'.tmps[75]?.getD undef = .bool true := (Array.getD_eq_getD_getElem? ..).symm.trans e75
        have f85 : a'.tmps[85]?.getD undef = .bool true := (Array.getD_eq_getD_getElem? ..).symm.trans e85
        clear e75 e85
        first | rfl | (go_simp <;> exact IntWalk.i64_in _ (by omega))
      · intro a' w' K hI hd hq hK
        have e86 : a'.eval (.tmp 86) = (.bool true) := (hd 17 86 (by kernel_rfl))
        clear hd hq
        refine op_value (wanted_free _ _ (by rfl)) (v := (.bool true)) (w'' := w') ?_ (hK _ _ hI (fun _ _ h => h) rfl)
        clear hK
        simp only [execOp, e86]
        have f86 : a'.tmps[86]?.getD undef = (.bool true) := (Array.getD_eq_getD_getElem? ..).symm.trans e86
        clear e86
        first | rfl | (go_simp <;> exact IntWalk.i64_in _ (by omega))
      · intro a' w' K hI hd hq hK
        have hg := hd 18 87 (by kernel_rfl)
        have e5 : a'.eval (.tmp 5) = .slice Aa N ca := (hq 5 (by kernel_rfl)).trans rfl
        clear hd hq
        refine op_value (wanted_on _ a' 18 87 true (by rfl) (by rfl) hg) (v := .slice Aa N ca) (w'' := w') ?_ (hK _ _ hI (fun _ _ h => h) rfl)
        clear hK
        simp only [execOp, e5]
        have f5 : a'.tmps[5]?.getD undef = .slice Aa N ca := (Array.getD_eq_getD_getElem? ..).symm.trans e5
        clear e5
        first | rfl | (go_simp <;> exact IntWalk.i64_in _ (by omega))
      · intro a' w' K hI hd hq hK
        have hg := hd 18 87 (by kernel_rfl)
        have e9 : a'.eval (.tmp 9) = .slice (some ⟨bb, ob, none⟩) (N + 1) cb := (hq 9 (by kernel_rfl)).trans rfl
        clear hd hq
        refine op_value (wanted_on _ a' 18 87 true (by rfl) (by rfl) hg) (v := .slice (some ⟨bb, ob, none⟩) (N + 1) cb) (w'' := w') ?_ (hK _ _ hI (fun _ _ h => h) rfl)
        clear hK
        simp only [execOp, e9]
        have f9 : a'.tmps[9]?.getD undef = .slice (some ⟨bb, ob, none⟩) (N + 1) cb := (Array.getD_eq_getD_getElem? ..).symm.trans e9
        clear e9
        first | rfl | (go_simp <;> exact IntWalk.i64_in _ (by omega))
      · intro a' w' K hI hd hq hK
        have hg := hd 18 87 (by kernel_rfl)
        have e88 : a'.eval (.tmp 88) = .slice Aa N ca := (hd 19 88 (by kernel_rfl))
        have e89 : a'.eval (.tmp 89) = .slice (some ⟨bb, ob, none⟩) (N + 1) cb := (hd 20 89 (by kernel_rfl))
        clear hd hq
        refine op_call #[.slice Aa N ca, .slice (some ⟨bb, ob, none⟩) (N + 1) cb] (wanted_on _ a' 18 87 true (by rfl) (by rfl) hg) rfl Try.func19 (by kernel_rfl) rfl (by simp [e88, e89]) ?_
        refine (prefix_any Aa (some ⟨bb, ob, none⟩) N ca (N + 1) cb (mkOf F) (mkOf (F ++ [s])) w' HML.out HGM.out (by have := HN.out; omega) (by have := HN.out; omega) HMH.out HGH.out HMT.out HGT.out (HAW.out _ hI.1) (HBW.out _ hI.1)).mono ?_
        rw [decide_eq_true HTK.out]
        rintro e w6 ⟨rfl, hb⟩
        refine ⟨_, rfl, hK _ _ ⟨below_below hI.1 hI.1.size hb, below_below hI.2 hI.2.size hb⟩ (fun j u => by match j with | 0 | 1 | 2 | 3 | 4 | 5 | 6 | 7 | 8 | 9 | 10 | 11 | 12 | 13 | 14 | 15 | 16 | 17 | 18 | 19 | 20 | 21 | 22 | 23 | 24 | 25 | 26 => exact fun h => h | _ + 27 => exact fun _ => trivial) rfl⟩
      · intro a' w' K hI hd hq hK
        have e87 : a'.eval (.tmp 87) = (.bool true) := (hd 18 87 (by kernel_rfl))
        have e90 : a'.eval (.tmp 90) = .bool true := (hd 21 90 (by kernel_rfl))
        clear hd hq
        refine op_value (wanted_free _ _ (by rfl)) (v := (.bool true)) (w'' := w') ?_ (hK _ _ hI (fun _ _ h => h) rfl)
        clear hK
        simp only [execOp, e87, e90]
        have f87 : a'.tmps[87]?.getD undef = (.bool true) := (Array.getD_eq_getD_getElem? ..).symm.trans e87
        have f90 : a'.tmps[90]?.getD undef = .bool true := (Array.getD_eq_getD_getElem? ..).symm.trans e90
        clear e87 e90
        first | rfl | (go_simp <;> exact IntWalk.i64_in _ (by omega))
      · intro a' w' K hI hd hq hK
        have e91 : a'.eval (.tmp 91) = (.bool true) := (hd 22 91 (by kernel_rfl))
        clear hd hq
        refine op_value (wanted_free _ _ (by rfl)) (v := (.bool true)) (w'' := w') ?_ (hK _ _ hI (fun _ _ h => h) rfl)
        clear hK
        simp only [execOp, e91]
        have f91 : a'.tmps[91]?.getD undef = (.bool true) := (Array.getD_eq_getD_getElem? ..).symm.trans e91
        clear e91
        first | rfl | (go_simp <;> exact IntWalk.i64_in _ (by omega))
      · intro a' w' K hI hd hq hK
        have hg := hd 23 92 (by kernel_rfl)
        clear hd hq
        refine op_call #[] (wanted_on _ a' 23 92 true (by rfl) (by rfl) hg) rfl Try.func16 (by kernel_rfl) rfl (by simp) ?_
        refine (known19_any w').mono ?_
        rintro e w6 ⟨rfl, hb⟩
        refine ⟨_, rfl, hK _ _ ⟨below_below hI.1 hI.1.size hb, below_below hI.2 hI.2.size hb⟩ (fun j u => by match j with | 0 | 1 | 2 | 3 | 4 | 5 | 6 | 7 | 8 | 9 | 10 | 11 | 12 | 13 | 14 | 15 | 16 | 17 | 18 | 19 | 20 | 21 | 22 | 23 | 24 | 25 | 26 => exact fun h => h | _ + 27 => exact fun _ => trivial) rfl⟩
      · intro a' w' K hI hd hq hK
        have e92 : a'.eval (.tmp 92) = (.bool true) := (hd 23 92 (by kernel_rfl))
        have e93 : a'.eval (.tmp 93) = .bool true := (hd 24 93 (by kernel_rfl))
        clear hd hq
        refine op_value (wanted_free _ _ (by rfl)) (v := (.bool true)) (w'' := w') ?_ (hK _ _ hI (fun _ _ h => h) rfl)
        clear hK
        simp only [execOp, e92, e93]
        have f92 : a'.tmps[92]?.getD undef = (.bool true) := (Array.getD_eq_getD_getElem? ..).symm.trans e92
        have f93 : a'.tmps[93]?.getD undef = .bool true := (Array.getD_eq_getD_getElem? ..).symm.trans e93
        clear e92 e93
        first | rfl | (go_simp <;> exact IntWalk.i64_in _ (by omega))
      · intro a' w' K hI hd hq hK
        have e94 : a'.eval (.tmp 94) = (.bool true) := (hd 25 94 (by kernel_rfl))
        clear hd hq
        refine op_value (wanted_free _ _ (by rfl)) (v := (.bool true)) (w'' := w') ?_ (hK _ _ hI (fun _ _ h => h) rfl)
        clear hK
        simp only [execOp, e94]
        have f94 : a'.tmps[94]?.getD undef = (.bool true) := (Array.getD_eq_getD_getElem? ..).symm.trans e94
        clear e94
        first | rfl | (go_simp <;> exact IntWalk.i64_in _ (by omega))
    case fin14 =>
      rintro w' hI _ rfl _ rfl _ rfl _ rfl _ rfl _ rfl _ rfl _ rfl _ rfl _ rfl _ rfl _ rfl _ rfl _ rfl _ rfl _ rfl _ rfl _ rfl _ rfl _ rfl _ rfl _ rfl _ rfl _ rfl _ rfl _ rfl _ rfl
      simp only [Act.put, List.setIfInBounds_toArray, List.set_cons_zero, List.set_cons_succ, FinGoal]
      go_wp2_with fail
      go_ret
      exact ⟨rfl, hI.2⟩

end Go.Proofs.Ythlbmjjodjepjaa
