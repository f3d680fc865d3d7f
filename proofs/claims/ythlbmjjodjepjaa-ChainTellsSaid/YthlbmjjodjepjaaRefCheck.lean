/-
  The walk of the reference's Check, on any links.
-/
import Derived.Test.YthlbmjjodjepjaaRefMake
import Derived.Test.YthlbmjjodjepjaaChainCheckG
set_option linter.unusedVariables false
set_option linter.unusedSimpArgs false
namespace Go.Proofs.Ythlbmjjodjepjaa
open Go.RowKit

set_option maxRecDepth 100000 in
set_option maxHeartbeats 8000000 in
theorem refCheck_any (A : Option Addr) (n c : Nat) (M : List (List UInt8 × List UInt8)) (w : World) (hl : M.length = n) (hn : n ≤ 100000) (hs : ∀ x ∈ M, x.1.length ≤ 1000000) (hh : ∀ x ∈ M, x.2.length = 32) (hr : RC w A (lv M)) :
    Calls Try.prog 48 #[.slice A n c] w fun e w' => e = .returned (.int .i64 (checkOf M : Int)) ∧ Below w.heap.size w w' := by
  subst hl
  obtain ⟨K, eK⟩ : ∃ K, K = checkOf M := ⟨_, rfl⟩
  rw [← eK]
  have EK := Lib.hid eK
  have HH := Lib.hid hh
  clear eK hh
  have HL := Lib.hid hr
  have HSM := Lib.hid hs
  have HN := Lib.hid hn
  clear hr hs
  obtain ⟨z32, hz32⟩ : ∃ z32, z32 = (bv (List.replicate 32 0)).toArray := ⟨_, rfl⟩
  go_enter Try.func48, Try.ntmps48
  go_upto_region 1 with fail
  refine wp_region_lit ?_
  refine Great.wpList_allocTo rfl _ rfl (.pointer (some ⟨w.heap.size, 0, none⟩)) (.cells z32 28) ?x1 ?_
  case x1 => rw [hz32]; kernel_rfl
  refine wpList_nil ?_
  rename_i hK
  refine hK _ _ ?_
  clear hK
  obtain ⟨w1, hw1⟩ : ∃ w1, w1 = w.alloc (.cells z32 28) := ⟨_, rfl⟩
  rw [← hw1]
  have HA1 := Lib.hid (show Arr w1 w.heap.size 28 (bv (headOf [])) by rw [hw1, hz32]; exact Arr.new _ _ _)
  have HB1 := Lib.hid (show Below w.heap.size w w1 by rw [hw1]; exact (Below.refl _ _).alloc (Nat.le_refl _) _)
  clear hw1 hz32
  go_wp2_with fail
  go_loopg [4] M.length (fun k s4 wr => ∃ i : Nat, i ≤ M.length ∧ k = M.length - i ∧ s4 = .int .i64 (i : Int) ∧ Arr wr w.heap.size 28 (bv (headOf ((M.take i).map (·.1)))) ∧ (∀ j, j < i → goodAt M j = true) ∧ Below w.heap.size w wr)
  case atStart => exact ⟨0, Nat.zero_le _, by omega, rfl, HA1.out, fun j hj => absurd hj (Nat.not_lt_zero _), HB1.out⟩
  case round =>
    obtain ⟨i, hi, hk, rfl, ha, hgd, hb⟩ := hrel
    have HK := Lib.hid hk
    have HGD := Lib.hid hgd
    have HA := Lib.hid ha
    have HB := Lib.hid hb
    clear hk ha hb hgd HA1 HB1
    by_cases hlt : i < M.length
    · obtain ⟨bl, ol, rfl, e1⟩ := HL.out.parts (by rw [lv_length _ HH.out]; omega)
      have hRG := lk_range HH.out e1 i hlt
      have hxs : (M[i]).1.length ≤ 1000000 := HSM.out _ (List.getElem_mem hlt)
      have hgl : (M[i]).2.length = 32 := HH.out _ (List.getElem_mem hlt)
      have hT : (M.take (i + 1)).map (·.1) = (M.take i).map (·.1) ++ [(M[i]).1] := by rw [List.take_succ_eq_append_getElem hlt, List.map_append]; rfl
      have hq : goodAt M i = decide ((M[i]).2 = nextOf (headOf ((M.take i).map (·.1))) (M[i]).1) := by
        unfold goodAt
        rw [hT, headOf_snoc, List.getD_eq_getElem?_getD, List.getElem?_eq_getElem hlt]
        rfl
      have HT := Lib.hid (show headOf ((M.take (i + 1)).map (·.1)) = nextOf (headOf ((M.take i).map (·.1))) (M[i]).1 by rw [hT, headOf_snoc])
      generalize M[i] = xg at *
      obtain ⟨x, g⟩ := xg
      simp only at hxs hgl hq HT
      obtain ⟨hd, ehd⟩ : ∃ hd, hd = headOf ((M.take i).map (·.1)) := ⟨_, rfl⟩
      have hhl : hd.length = 32 := by rw [ehd]; exact headOf_length _
      rw [← ehd] at HA hq HT
      obtain ⟨h2, eh2⟩ : ∃ h2, h2 = nextOf hd x := ⟨_, rfl⟩
      have hhl2 : h2.length = 32 := by rw [eh2]; exact nextOf_length _ _
      rw [← eh2] at hq HT
      have HRM := Lib.hid (show ∀ W, Below w.heap.size w W → W.rangeAt bl (ol + i * 33 + 1) (bv g) from fun W h j v hj => by
        have := cell_below h (hRG (j + 1) v (by simpa [lk] using hj))
        rwa [show ol + i * 33 + (j + 1) = ol + i * 33 + 1 + j by omega] at this)
      have hs0 : ∀ W, Below w.heap.size w W → W.cell? ⟨bl, ol + i * 33, none⟩ = some (.string (strB x)) := fun W h => cell_below h (hRG 0 _ rfl)
      obtain ⟨hc, ehc⟩ : ∃ hc, hc = (bv hd).toArray := ⟨_, rfl⟩
      have hcs : hc.size = 32 := by rw [ehc, List.size_toArray, bv_length, hhl]
      have hcz : (Try.prog.info? 28).map (·.size) = some hc.size := by rw [hcs]; exact info72
      obtain ⟨hc2, ehc2⟩ : ∃ hc2, hc2 = (bv h2).toArray := ⟨_, rfl⟩
      have hcs2 : hc2.size = 32 := by rw [ehc2, List.size_toArray, bv_length, hhl2]
      have hcz2 : (Try.prog.info? 28).map (·.size) = some hc2.size := by rw [hcs2]; exact info72
      have hone2 : hc2.all (·.oneCell') = true := by rw [ehc2]; exact all_oneCell_toArray (bv_one _)
      obtain ⟨gc, egc⟩ : ∃ gc, gc = (bv g).toArray := ⟨_, rfl⟩
      obtain ⟨qq, eq⟩ : ∃ qq, qq = goodAt M i := ⟨_, rfl⟩
      have HEQ := Lib.hid (show ∀ W, (Op.equalIn 10000 28 (.agg hc2) (.agg gc)).run Try.prog W = .ok qq W by
        intro W
        rw [egc, ehc2, eq32 h2 g hhl2 hgl, eq, hq]
        congr 1
        exact decide_eq_decide.2 ⟨fun h => h.symm, fun h => h.symm⟩)
      have EGC := Lib.hid egc
      have HGLN := Lib.hid hgl
      have EQ := Lib.hid eq
      have HGL := Lib.hid (Arr.lt HA.out)
      clear egc hgl eq hq hT
      have hi0 : (0 : Int) ≤ (i : Int) := by omega
      have hi1 : (i : Int) < (M.length : Int) := by omega
      have HXS := Lib.hid (show (strB x).size ≤ 1000000 by rw [strB_size]; exact hxs)
      have HLT := Lib.hid hlt
      have HHL := Lib.hid hhl
      have HHL2 := Lib.hid hhl2
      have EHC := Lib.hid ehc
      have HCS := Lib.hid hcs
      have HCZ := Lib.hid hcz
      have EHC2 := Lib.hid ehc2
      have HCS2 := Lib.hid hcs2
      have HCZ2 := Lib.hid hcz2
      have HONE2 := Lib.hid hone2
      have EH2 := Lib.hid eh2
      have HXB := Lib.hid (strB_toList x)
      obtain ⟨sx, esx⟩ : ∃ sx, sx = strB x := ⟨_, rfl⟩
      rw [← esx] at HXS HXB hs0
      have HST := Lib.hid (show ∀ W, Upd (fun q => q = w.heap.size) wr W → W.cell? ⟨bl, ol + i * 33, none⟩ = some (.string sx) from fun W h => hs0 W (below_upd HB.out HB.out.size h (fun k hk => by rw [hk]; exact Nat.le_refl _)))
      clear e1 hRG hxs ehd hhl eh2 hhl2 ehc hcs hcz ehc2 hcs2 hcz2 hone2 hlt hi hs0 esx
      go_upto_region 5 with fail
      go_cut [17] (fun s17 wx => Arr wx w.heap.size 28 (bv h2) ∧ Upd (fun q => q = w.heap.size) wr wx)
      case first =>
        refine region_byL (HeadU wr w.heap.size 7 hd) [fun v _ => v = .agg hc, (fun v _ => v = .slice (some ⟨bl, ol, none⟩) M.length c), (fun v _ => v = .int .i64 (i : Int)), (fun v _ => v = .pointer (some ⟨bl, ol + i * 33, none⟩)), (fun v _ => v = .pointer (some ⟨bl, ol + i * 33, none⟩)), (fun v _ => v = .string sx), fun v _ => v = .agg hc2, fun _ w' => Arr w' w.heap.size 28 (bv h2)] (by kernel_rfl) (by kernel_rfl) (by kernel_rfl) rfl (⟨(Upd.refl _ _).drew, HGL.out, fun _ => HA.out.drew⟩) ?ok5 ?fin5
        case ok5 =>
          refine ⟨?_, ?_, ?_, ?_, ?_, ?_, ?_, ?_, trivial⟩
          · intro l a' w' K hI hcl hsz hn hd hq hK
            have e3 : a'.eval (.tmp 3) = .pointer (some ⟨w.heap.size, 0, none⟩) := (hq 3 (by kernel_rfl)).trans rfl
            clear hd hq
            have h6 : l.getD 7 false = false := hcl 7 0 (by kernel_rfl) hn
            have hrow : w'.heap[w.heap.size]? = some (.cells hc 28) := by rw [EHC.out]; exact hI.head h6
            refine op_value (wanted_free _ _ (by rfl)) (v := .agg hc) (w'' := w') ?_ (hK _ _ (hI.set _) (fun _ _ h => h) rfl)
            simp only [execOp, e3, Instr.loadAt, Instr.sureAddr, Sem.run_bind, Sem.run_pure, Result.andThen_ok, run_loadVar_row w' w.heap.size 28 28 hc (0, 0) _ hrow Try.underlying28 rfl HCZ.out]
          · intro l a' w' K hI hcl hsz hn hd hq hK
            have e0 : a'.eval (.tmp 0) = .slice (some ⟨bl, ol, none⟩) M.length c := (hq 0 (by kernel_rfl)).trans rfl
            clear hd hq hcl hsz hn
            refine op_value (wanted_free _ _ (by rfl)) (v := .slice (some ⟨bl, ol, none⟩) M.length c) (w'' := w') ?_ (hK _ _ (hI.set _) (fun _ _ h => h) rfl)
            clear hK
            simp only [execOp, e0]
            have f0 : a'.tmps[0]?.getD undef = .slice (some ⟨bl, ol, none⟩) M.length c := (Array.getD_eq_getD_getElem? ..).symm.trans e0
            clear e0
            first | rfl | (go_simp <;> exact IntWalk.i64_in _ (by omega))
          · intro l a' w' K hI hcl hsz hn hd hq hK
            have e4 : a'.eval (.tmp 4) = .int .i64 (i : Int) := (hq 4 (by kernel_rfl)).trans rfl
            clear hd hq hcl hsz hn
            refine op_value (wanted_free _ _ (by rfl)) (v := .int .i64 (i : Int)) (w'' := w') ?_ (hK _ _ (hI.set _) (fun _ _ h => h) rfl)
            clear hK
            simp only [execOp, e4]
            have f4 : a'.tmps[4]?.getD undef = .int .i64 (i : Int) := (Array.getD_eq_getD_getElem? ..).symm.trans e4
            clear e4
            first | rfl | (go_simp <;> exact IntWalk.i64_in _ (by omega))
          · intro l a' w' K hI hcl hsz hn hd hq hK
            have e12 : a'.eval (.tmp 12) = .slice (some ⟨bl, ol, none⟩) M.length c := (hd 1 12 (by kernel_rfl))
            have e13 : a'.eval (.tmp 13) = .int .i64 (i : Int) := (hd 2 13 (by kernel_rfl))
            clear hd hq hcl hsz hn
            refine op_value (wanted_free _ _ (by rfl)) (v := .pointer (some ⟨bl, ol + i * 33, none⟩)) (w'' := w') ?_ (hK _ _ (hI.set _) (fun _ _ h => h) rfl)
            clear hK
            simp only [execOp, e12, e13]
            have f12 : a'.tmps[12]?.getD undef = .slice (some ⟨bl, ol, none⟩) M.length c := (Array.getD_eq_getD_getElem? ..).symm.trans e12
            have f13 : a'.tmps[13]?.getD undef = .int .i64 (i : Int) := (Array.getD_eq_getD_getElem? ..).symm.trans e13
            clear e12 e13
            first | rfl | (go_simp <;> exact IntWalk.i64_in _ (by omega))
          · intro l a' w' K hI hcl hsz hn hd hq hK
            have e14 : a'.eval (.tmp 14) = .pointer (some ⟨bl, ol + i * 33, none⟩) := (hd 3 14 (by kernel_rfl))
            clear hd hq hcl hsz hn
            refine op_value (wanted_free _ _ (by rfl)) (v := .pointer (some ⟨bl, ol + i * 33, none⟩)) (w'' := w') ?_ (hK _ _ (hI.set _) (fun _ _ h => h) rfl)
            clear hK
            simp only [execOp, e14]
            have f14 : a'.tmps[14]?.getD undef = .pointer (some ⟨bl, ol + i * 33, none⟩) := (Array.getD_eq_getD_getElem? ..).symm.trans e14
            clear e14
            first | rfl | (go_simp <;> exact IntWalk.i64_in _ (by omega))
          · intro l a' w' K hI hcl hsz hn hd hq hK
            have e15 : a'.eval (.tmp 15) = .pointer (some ⟨bl, ol + i * 33, none⟩) := (hd 4 15 (by kernel_rfl))
            clear hd hq hcl hsz hn
            have hst := HST.out w' hI.upd
            refine op_value (wanted_free _ _ (by rfl)) (v := .string sx) (w'' := w') ?_ (hK _ _ (hI.set _) (fun _ _ h => h) rfl)
            clear hK
            simp only [execOp, e15]
            have f15 : a'.tmps[15]?.getD undef = .pointer (some ⟨bl, ol + i * 33, none⟩) := (Array.getD_eq_getD_getElem? ..).symm.trans e15
            clear e15
            first | rfl | (go_simp <;> exact IntWalk.i64_in _ (by omega))
          · intro l a' w' K hI hcl hsz hn hd hq hK
            have e11 : a'.eval (.tmp 11) = .agg hc := (hd 0 11 (by kernel_rfl))
            have e16 : a'.eval (.tmp 16) = .string sx := (hd 5 16 (by kernel_rfl))
            clear hd hq
            have h6 : l.getD 7 false = false := hcl 7 6 (by kernel_rfl) hn
            refine op_call #[.agg hc, .string sx] (wanted_free _ _ (by rfl)) rfl Try.func53 (by kernel_rfl) rfl (by simp [e11, e16]) ?_
            rw [EHC.out]
            refine (refNext_any hd sx w' HHL.out HXS.out).mono ?_
            rw [HXB.out, ← EH2.out, ← EHC2.out]
            rintro e w6 ⟨rfl, hb⟩
            have hI2 : HeadU wr w.heap.size 7 hd l w6 := ⟨hI.upd.below hb, Nat.lt_of_lt_of_le hI.lt hb.size, fun h => (hI.head h).below hb hI.lt⟩
            refine ⟨_, rfl, hK _ _ (hI2.set _) (fun j u => by match j with | 7 => exact fun h => Arr.below h hb hI.lt | 0 | 1 | 2 | 3 | 4 | 5 | 6 => exact fun h => h | _ + 8 => exact fun _ => trivial) rfl⟩
          · intro l a' w' K hI hcl hsz hn hd hq hK
            have e3 : a'.eval (.tmp 3) = .pointer (some ⟨w.heap.size, 0, none⟩) := (hq 3 (by kernel_rfl)).trans rfl
            have e17 : a'.eval (.tmp 17) = .agg hc2 := (hd 6 17 (by kernel_rfl))
            clear hd hq
            have hrow : w'.heap[w.heap.size]? = some (.cells hc 28) := by rw [EHC.out]; exact hI.head hn
            have hnew : Arr (w'.setRow w.heap.size hc2) w.heap.size 28 (bv h2) := by
              have h := setRow_heap w' w.heap.size _ hc2 _ _ hrow
              rw [EHC2.out] at h ⊢
              exact h
            have hI2 : HeadU wr w.heap.size 7 hd (l.setIfInBounds 7 true) (w'.setRow w.heap.size hc2) := ⟨upd_setRow hI.upd w.heap.size hc2 (fun _ => rfl), hnew.lt, fun h => by
              exfalso
              rw [Array.getD_eq_getD_getElem?, Array.getElem?_setIfInBounds, if_pos rfl, if_pos (by rw [hsz]; exact of_decide_eq_true (by kernel_rfl))] at h
              simp at h⟩
            refine op_do (wanted_free _ _ (by rfl)) ?_
            refine wp_store_row 28 _ _ rfl w.heap.size hc2 e3 e17 28 hc hrow HCZ2.out (by rw [HCS.out, HCS2.out]) HONE2.out ?_
            exact hK undef _ hI2 (fun j u => by match j with | 7 => exact fun _ => hnew | 0 | 1 | 2 | 3 | 4 | 5 | 6 => exact fun h => h | _ + 8 => exact fun _ => trivial) hnew
        case fin5 =>
          rintro l w' hsz hall hI _ rfl _ rfl _ rfl _ rfl _ rfl _ rfl _ rfl _ hst6
          simp only [Act.put, List.setIfInBounds_toArray, List.set_cons_zero, List.set_cons_succ, FinGoal]
          go_wp2_with fail
          go_meet
          exact ⟨hst6, hI.upd⟩
      case rest =>
        obtain ⟨hA6, hU6⟩ := hcut
        have HA6 := Lib.hid hA6
        have HB6 := Lib.hid (below_upd HB.out HB.out.size hU6 (fun k hk => by rw [hk]; exact Nat.le_refl _))
        clear hA6 hU6
        go_upto_region 6 with fail
        refine region_by (fun W => W = wc.drew) [fun v _ => v = .agg hc2, (fun v _ => v = .slice (some ⟨bl, ol, none⟩) M.length c), (fun v _ => v = .int .i64 (i : Int)), (fun v _ => v = .pointer (some ⟨bl, ol + i * 33, none⟩)), (fun v _ => v = .pointer (some ⟨bl, ol + i * 33 + 1, none⟩)), fun v _ => v = .agg gc, fun v _ => v = .bool (!qq)] (by kernel_rfl) (by kernel_rfl) (by kernel_rfl) rfl (rfl) ?ok6 ?fin6
        case ok6 =>
          refine ⟨?_, ?_, ?_, ?_, ?_, ?_, ?_, trivial⟩
          · intro a' w' K hI hd hq hK
            have e3 : a'.eval (.tmp 3) = .pointer (some ⟨w.heap.size, 0, none⟩) := (hq 3 (by kernel_rfl)).trans rfl
            clear hd hq
            subst hI
            have hrow : wc.drew.heap[w.heap.size]? = some (.cells hc2 28) := by rw [EHC2.out]; exact HA6.out.drew
            refine op_value (wanted_free _ _ (by rfl)) (v := .agg hc2) (w'' := wc.drew) ?_ (hK _ _ rfl (fun _ _ h => h) rfl)
            simp only [execOp, e3, Instr.loadAt, Instr.sureAddr, Sem.run_bind, Sem.run_pure, Result.andThen_ok, run_loadVar_row wc.drew w.heap.size 28 28 hc2 (0, 0) _ hrow Try.underlying28 rfl HCZ2.out]
          · intro a' w' K hI hd hq hK
            have e0 : a'.eval (.tmp 0) = .slice (some ⟨bl, ol, none⟩) M.length c := (hq 0 (by kernel_rfl)).trans rfl
            clear hd hq
            refine op_value (wanted_free _ _ (by rfl)) (v := .slice (some ⟨bl, ol, none⟩) M.length c) (w'' := w') ?_ (hK _ _ hI (fun _ _ h => h) rfl)
            clear hK
            simp only [execOp, e0]
            have f0 : a'.tmps[0]?.getD undef = .slice (some ⟨bl, ol, none⟩) M.length c := (Array.getD_eq_getD_getElem? ..).symm.trans e0
            clear e0
            first | rfl | (go_simp <;> exact IntWalk.i64_in _ (by omega))
          · intro a' w' K hI hd hq hK
            have e4 : a'.eval (.tmp 4) = .int .i64 (i : Int) := (hq 4 (by kernel_rfl)).trans rfl
            clear hd hq
            refine op_value (wanted_free _ _ (by rfl)) (v := .int .i64 (i : Int)) (w'' := w') ?_ (hK _ _ hI (fun _ _ h => h) rfl)
            clear hK
            simp only [execOp, e4]
            have f4 : a'.tmps[4]?.getD undef = .int .i64 (i : Int) := (Array.getD_eq_getD_getElem? ..).symm.trans e4
            clear e4
            first | rfl | (go_simp <;> exact IntWalk.i64_in _ (by omega))
          · intro a' w' K hI hd hq hK
            have e19 : a'.eval (.tmp 19) = .slice (some ⟨bl, ol, none⟩) M.length c := (hd 1 19 (by kernel_rfl))
            have e20 : a'.eval (.tmp 20) = .int .i64 (i : Int) := (hd 2 20 (by kernel_rfl))
            clear hd hq
            refine op_value (wanted_free _ _ (by rfl)) (v := .pointer (some ⟨bl, ol + i * 33, none⟩)) (w'' := w') ?_ (hK _ _ hI (fun _ _ h => h) rfl)
            clear hK
            simp only [execOp, e19, e20]
            have f19 : a'.tmps[19]?.getD undef = .slice (some ⟨bl, ol, none⟩) M.length c := (Array.getD_eq_getD_getElem? ..).symm.trans e19
            have f20 : a'.tmps[20]?.getD undef = .int .i64 (i : Int) := (Array.getD_eq_getD_getElem? ..).symm.trans e20
            clear e19 e20
            first | rfl | (go_simp <;> exact IntWalk.i64_in _ (by omega))
          · intro a' w' K hI hd hq hK
            have e21 : a'.eval (.tmp 21) = .pointer (some ⟨bl, ol + i * 33, none⟩) := (hd 3 21 (by kernel_rfl))
            clear hd hq
            refine op_value (wanted_free _ _ (by rfl)) (v := .pointer (some ⟨bl, ol + i * 33 + 1, none⟩)) (w'' := w') ?_ (hK _ _ hI (fun _ _ h => h) rfl)
            clear hK
            simp only [execOp, e21]
            have f21 : a'.tmps[21]?.getD undef = .pointer (some ⟨bl, ol + i * 33, none⟩) := (Array.getD_eq_getD_getElem? ..).symm.trans e21
            clear e21
            first | rfl | (go_simp <;> exact IntWalk.i64_in _ (by omega))
          · intro a' w' K hI hd hq hK
            have e22 : a'.eval (.tmp 22) = .pointer (some ⟨bl, ol + i * 33 + 1, none⟩) := (hd 4 22 (by kernel_rfl))
            clear hd hq
            subst hI
            refine op_value (wanted_free _ _ (by rfl)) (v := .agg gc) (w'' := wc.drew) ?_ (hK _ _ rfl (fun _ _ h => h) rfl)
            rw [EGC.out]
            simp only [execOp, e22, Instr.loadAt, Instr.sureAddr, Sem.run_bind, Sem.run_pure, Result.andThen_ok, run_loadVar_mid wc.drew bl (ol + i * 33 + 1) 28 (bv g) _ (HRM.out _ HB6.out.drew) Try.underlying28 rfl (by rw [bv_length, HGLN.out]; exact info72)]
          · intro a' w' K hI hd hq hK
            have e18 : a'.eval (.tmp 18) = .agg hc2 := (hd 0 18 (by kernel_rfl))
            have e23 : a'.eval (.tmp 23) = .agg gc := (hd 5 23 (by kernel_rfl))
            clear hd hq
            refine op_value (wanted_free _ _ (by rfl)) (v := .bool (!qq)) (w'' := w') ?_ (hK _ _ hI (fun _ _ h => h) rfl)
            simp only [execOp, e18, e23, Sem.run_bind, run_eqGuard_agg w' _ 28 _ _ _ _ (show Try.prog.eqGuardType Try.prog.depth 28 = false by kernel_rfl), run_neq_struct, HEQ.out w', Result.andThen_ok, Sem.run_pure]
        case fin6 =>
          rintro w' hI _ rfl _ rfl _ rfl _ rfl _ rfl _ rfl _ rfl
          simp only [Act.put, List.setIfInBounds_toArray, List.set_cons_zero, List.set_cons_succ, FinGoal]
          subst hI
          cases qq with
          | true =>
            go_wp2_with fail
            go_roundg (M.length - (i + 1))
            case measure => have := HK.out; have := HLT.out; omega
            case rel =>
              refine ⟨i + 1, HLT.out, rfl, by go_num, by rw [HT.out]; exact HA6.out.drew, fun j hj => ?_, HB6.out.drew⟩
              by_cases hji : j = i
              · rw [hji]; exact EQ.out.symm
              · exact HGD.out j (by omega)
          | false =>
            go_wp2_with fail
            go_ret
            exact ⟨by rw [EK.out, checkOf_bad M i HLT.out HGD.out EQ.out.symm]; rfl, HB6.out.drew⟩
    · obtain rfl : i = M.length := by omega
      go_wp2_with fail
      go_ret
      exact ⟨by rw [EK.out, checkOf_good M HGD.out]; rfl, HB.out⟩

end Go.Proofs.Ythlbmjjodjepjaa
