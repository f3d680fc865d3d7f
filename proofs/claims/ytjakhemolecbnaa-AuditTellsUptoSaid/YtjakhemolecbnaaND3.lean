/-
  The texts RefCheck, RefEnc of this proof in one (what is used of them): what each proves is said at its head. No conditions beyond those that each theorem says.
-/
import Derived.Test.YtjakhemolecbnaaND2
import Derived.Test.YtjakhemolecbnaaNC2
import Derived.Test.YtjakhemolecbnaaNC

/-
  The walk of the reference's Check, on any links.
-/
section
set_option linter.unusedVariables false
set_option linter.unusedSimpArgs false
namespace Go.Proofs.Ytjakhemolecbnaa
open Go.RowKit

set_option maxRecDepth 100000 in
set_option maxHeartbeats 8000000 in
theorem refCheck_any (A : Option Addr) (n c : Nat) (M : List (List UInt8 × List UInt8)) (w : World) (hl : M.length = n) (hn : n ≤ 100000) (hs : ∀ x ∈ M, x.1.length ≤ 1000000) (hh : ∀ x ∈ M, x.2.length = 32) (hr : RC w A (lv M)) :
    Calls Try.prog 64 #[.slice A n c] w fun e w' => e = .returned (.int .i64 (checkOf M : Int)) ∧ Below w.heap.size w w' := by
  subst hl
  obtain ⟨K, eK⟩ : ∃ K, K = checkOf M := ⟨_, rfl⟩
  rw [← eK]
  have EK := Lib.hid eK
  have HH := Lib.hid hh
  clear eK hh
  have HL := Lib.hid hr
  have HSM := Lib.hid hs
  have HN := Lib.hid hn
  clear hr hs
  obtain ⟨z32, hz32⟩ : ∃ z32, z32 = (bv (List.replicate 32 0)).toArray := ⟨_, rfl⟩
  go_enter Try.func64, Try.ntmps64
  go_upto_region 1 with fail
  refine wp_region_lit ?_
  refine Great.wpList_allocTo rfl _ rfl (.pointer (some ⟨w.heap.size, 0, none⟩)) (.cells z32 86) ?x1 ?_
  case x1 => rw [hz32]; kernel_rfl
  refine wpList_nil ?_
  rename_i hK
  refine hK _ _ ?_
  clear hK
  obtain ⟨w1, hw1⟩ : ∃ w1, w1 = w.alloc (.cells z32 86) := ⟨_, rfl⟩
  rw [← hw1]
  have HA1 := Lib.hid (show Arr w1 w.heap.size 86 (bv (headOf [])) by rw [hw1, hz32]; exact Arr.new _ _ _)
  have HB1 := Lib.hid (show Below w.heap.size w w1 by rw [hw1]; exact (Below.refl _ _).alloc (Nat.le_refl _) _)
  clear hw1 hz32
  go_wp2_with fail
  go_loopg [4] M.length (fun k s4 wr => ∃ i : Nat, i ≤ M.length ∧ k = M.length - i ∧ s4 = .int .i64 (i : Int) ∧ Arr wr w.heap.size 86 (bv (headOf ((M.take i).map (·.1)))) ∧ (∀ j, j < i → goodAt M j = true) ∧ Below w.heap.size w wr)
  case atStart => exact ⟨0, Nat.zero_le _, by omega, rfl, HA1.out, fun j hj => absurd hj (Nat.not_lt_zero _), HB1.out⟩
  case round =>
    obtain ⟨i, hi, hk, rfl, ha, hgd, hb⟩ := hrel
    have HK := Lib.hid hk
    have HGD := Lib.hid hgd
    have HA := Lib.hid ha
    have HB := Lib.hid hb
    clear hk ha hb hgd HA1 HB1
    by_cases hlt : i < M.length
    · obtain ⟨bl, ol, rfl, e1⟩ := HL.out.parts (by rw [lv_length _ HH.out]; omega)
      have hRG := lk_range HH.out e1 i hlt
      have hxs : (M[i]).1.length ≤ 1000000 := HSM.out _ (List.getElem_mem hlt)
      have hgl : (M[i]).2.length = 32 := HH.out _ (List.getElem_mem hlt)
      have hT : (M.take (i + 1)).map (·.1) = (M.take i).map (·.1) ++ [(M[i]).1] := by rw [List.take_succ_eq_append_getElem hlt, List.map_append]; rfl
      have hq : goodAt M i = decide ((M[i]).2 = nextOf (headOf ((M.take i).map (·.1))) (M[i]).1) := by
        unfold goodAt
        rw [hT, headOf_snoc, List.getD_eq_getElem?_getD, List.getElem?_eq_getElem hlt]
        rfl
      have HT := Lib.hid (show headOf ((M.take (i + 1)).map (·.1)) = nextOf (headOf ((M.take i).map (·.1))) (M[i]).1 by rw [hT, headOf_snoc])
      generalize M[i] = xg at *
      obtain ⟨x, g⟩ := xg
      simp only at hxs hgl hq HT
      obtain ⟨hd, ehd⟩ : ∃ hd, hd = headOf ((M.take i).map (·.1)) := ⟨_, rfl⟩
      have hhl : hd.length = 32 := by rw [ehd]; exact headOf_length _
      rw [← ehd] at HA hq HT
      obtain ⟨h2, eh2⟩ : ∃ h2, h2 = nextOf hd x := ⟨_, rfl⟩
      have hhl2 : h2.length = 32 := by rw [eh2]; exact nextOf_length _ _
      rw [← eh2] at hq HT
      have HRM := Lib.hid (show ∀ W, Below w.heap.size w W → W.rangeAt bl (ol + i * 33 + 1) (bv g) from fun W h j v hj => by
        have := cell_below h (hRG (j + 1) v (by simpa [lk] using hj))
        rwa [show ol + i * 33 + (j + 1) = ol + i * 33 + 1 + j by omega] at this)
      have hs0 : ∀ W, Below w.heap.size w W → W.cell? ⟨bl, ol + i * 33, none⟩ = some (.string (strB x)) := fun W h => cell_below h (hRG 0 _ rfl)
      obtain ⟨hc, ehc⟩ : ∃ hc, hc = (bv hd).toArray := ⟨_, rfl⟩
      have hcs : hc.size = 32 := by rw [ehc, List.size_toArray, bv_length, hhl]
      have hcz : (Try.prog.info? 86).map (·.size) = some hc.size := by rw [hcs]; exact info72
      obtain ⟨hc2, ehc2⟩ : ∃ hc2, hc2 = (bv h2).toArray := ⟨_, rfl⟩
      have hcs2 : hc2.size = 32 := by rw [ehc2, List.size_toArray, bv_length, hhl2]
      have hcz2 : (Try.prog.info? 86).map (·.size) = some hc2.size := by rw [hcs2]; exact info72
      have hone2 : hc2.all (·.oneCell') = true := by rw [ehc2]; exact all_oneCell_toArray (bv_one _)
      obtain ⟨gc, egc⟩ : ∃ gc, gc = (bv g).toArray := ⟨_, rfl⟩
      obtain ⟨qq, eq⟩ : ∃ qq, qq = goodAt M i := ⟨_, rfl⟩
      have HEQ := Lib.hid (show ∀ W, (Op.equalIn 10000 86 (.agg hc2) (.agg gc)).run Try.prog W = .ok qq W by
        intro W
        rw [egc, ehc2, eq32 h2 g hhl2 hgl, eq, hq]
        congr 1
        exact decide_eq_decide.2 ⟨fun h => h.symm, fun h => h.symm⟩)
      have EGC := Lib.hid egc
      have HGLN := Lib.hid hgl
      have EQ := Lib.hid eq
      have HGL := Lib.hid (Arr.lt HA.out)
      clear egc hgl eq hq hT
      have hi0 : (0 : Int) ≤ (i : Int) := by omega
      have hi1 : (i : Int) < (M.length : Int) := by omega
      have HXS := Lib.hid (show (strB x).size ≤ 1000000 by rw [strB_size]; exact hxs)
      have HLT := Lib.hid hlt
      have HHL := Lib.hid hhl
      have HHL2 := Lib.hid hhl2
      have EHC := Lib.hid ehc
      have HCS := Lib.hid hcs
      have HCZ := Lib.hid hcz
      have EHC2 := Lib.hid ehc2
      have HCS2 := Lib.hid hcs2
      have HCZ2 := Lib.hid hcz2
      have HONE2 := Lib.hid hone2
      have EH2 := Lib.hid eh2
      have HXB := Lib.hid (strB_toList x)
      obtain ⟨sx, esx⟩ : ∃ sx, sx = strB x := ⟨_, rfl⟩
      rw [← esx] at HXS HXB hs0
      have HST := Lib.hid (show ∀ W, Upd (fun q => q = w.heap.size) wr W → W.cell? ⟨bl, ol + i * 33, none⟩ = some (.string sx) from fun W h => hs0 W (below_upd HB.out HB.out.size h (fun k hk => by rw [hk]; exact Nat.le_refl _)))
      clear e1 hRG hxs ehd hhl eh2 hhl2 ehc hcs hcz ehc2 hcs2 hcz2 hone2 hlt hi hs0 esx
      go_upto_region 5 with fail
      go_cut [17] (fun s17 wx => Arr wx w.heap.size 86 (bv h2) ∧ Upd (fun q => q = w.heap.size) wr wx)
      case first =>
        refine region_byL (HeadU wr w.heap.size 7 hd) [fun v _ => v = .agg hc, (fun v _ => v = .slice (some ⟨bl, ol, none⟩) M.length c), (fun v _ => v = .int .i64 (i : Int)), (fun v _ => v = .pointer (some ⟨bl, ol + i * 33, none⟩)), (fun v _ => v = .pointer (some ⟨bl, ol + i * 33, none⟩)), (fun v _ => v = .string sx), fun v _ => v = .agg hc2, fun _ w' => Arr w' w.heap.size 86 (bv h2)] (by kernel_rfl) (by kernel_rfl) (by kernel_rfl) rfl (⟨(Upd.refl _ _).drew, HGL.out, fun _ => HA.out.drew⟩) ?ok5 ?fin5
        case ok5 =>
          refine ⟨?_, ?_, ?_, ?_, ?_, ?_, ?_, ?_, trivial⟩
          · intro l a' w' K hI hcl hsz hn hd hq hK
            have e3 : a'.eval (.tmp 3) = .pointer (some ⟨w.heap.size, 0, none⟩) := (hq 3 (by kernel_rfl)).trans rfl
            clear hd hq
            have h6 : l.getD 7 false = false := hcl 7 0 (by kernel_rfl) hn
            have hrow : w'.heap[w.heap.size]? = some (.cells hc 86) := by rw [EHC.out]; exact hI.head h6
            refine op_value (wanted_free _ _ (by rfl)) (v := .agg hc) (w'' := w') ?_ (hK _ _ (hI.set _) (fun _ _ h => h) rfl)
            simp only [execOp, e3, Instr.loadAt, Instr.sureAddr, Sem.run_bind, Sem.run_pure, Result.andThen_ok, run_loadVar_row w' w.heap.size 86 86 hc (0, 0) _ hrow Try.underlying86 rfl HCZ.out]
          · intro l a' w' K hI hcl hsz hn hd hq hK
            have e0 : a'.eval (.tmp 0) = .slice (some ⟨bl, ol, none⟩) M.length c := (hq 0 (by kernel_rfl)).trans rfl
            clear hd hq hcl hsz hn
            refine op_value (wanted_free _ _ (by rfl)) (v := .slice (some ⟨bl, ol, none⟩) M.length c) (w'' := w') ?_ (hK _ _ (hI.set _) (fun _ _ h => h) rfl)
            clear hK
            simp only [execOp, e0]
            have f0 : a'.tmps[0]?.getD undef = .slice (some ⟨bl, ol, none⟩) M.length c := (Array.getD_eq_getD_getElem? ..).symm.trans e0
            clear e0
            first | rfl | (go_simp <;> exact IntWalk.i64_in _ (by omega))
          · intro l a' w' K hI hcl hsz hn hd hq hK
            have e4 : a'.eval (.tmp 4) = .int .i64 (i : Int) := (hq 4 (by kernel_rfl)).trans rfl
            clear hd hq hcl hsz hn
            refine op_value (wanted_free _ _ (by rfl)) (v := .int .i64 (i : Int)) (w'' := w') ?_ (hK _ _ (hI.set _) (fun _ _ h => h) rfl)
            clear hK
            simp only [execOp, e4]
            have f4 : a'.tmps[4]?.getD undef = .int .i64 (i : Int) := (Array.getD_eq_getD_getElem? ..).symm.trans e4
            clear e4
            first | rfl | (go_simp <;> exact IntWalk.i64_in _ (by omega))
          · intro l a' w' K hI hcl hsz hn hd hq hK
            have e12 : a'.eval (.tmp 12) = .slice (some ⟨bl, ol, none⟩) M.length c := (hd 1 12 (by kernel_rfl))
            have e13 : a'.eval (.tmp 13) = .int .i64 (i : Int) := (hd 2 13 (by kernel_rfl))
            clear hd hq hcl hsz hn
            refine op_value (wanted_free _ _ (by rfl)) (v := .pointer (some ⟨bl, ol + i * 33, none⟩)) (w'' := w') ?_ (hK _ _ (hI.set _) (fun _ _ h => h) rfl)
            clear hK
            simp only [execOp, e12, e13]
            have f12 : a'.tmps[12]?.getD undef = .slice (some ⟨bl, ol, none⟩) M.length c := (Array.getD_eq_getD_getElem? ..).symm.trans e12
            have f13 : a'.tmps[13]?.getD undef = .int .i64 (i : Int) := (Array.getD_eq_getD_getElem? ..).symm.trans e13
            clear e12 e13
            first | rfl | (go_simp <;> exact IntWalk.i64_in _ (by omega))
          · intro l a' w' K hI hcl hsz hn hd hq hK
            have e14 : a'.eval (.tmp 14) = .pointer (some ⟨bl, ol + i * 33, none⟩) := (hd 3 14 (by kernel_rfl))
            clear hd hq hcl hsz hn
            refine op_value (wanted_free _ _ (by rfl)) (v := .pointer (some ⟨bl, ol + i * 33, none⟩)) (w'' := w') ?_ (hK _ _ (hI.set _) (fun _ _ h => h) rfl)
            clear hK
            simp only [execOp, e14]
            have f14 : a'.tmps[14]?.getD undef = .pointer (some ⟨bl, ol + i * 33, none⟩) := (Array.getD_eq_getD_getElem? ..).symm.trans e14
            clear e14
            first | rfl | (go_simp <;> exact IntWalk.i64_in _ (by omega))
          · intro l a' w' K hI hcl hsz hn hd hq hK
            have e15 : a'.eval (.tmp 15) = .pointer (some ⟨bl, ol + i * 33, none⟩) := (hd 4 15 (by kernel_rfl))
            clear hd hq hcl hsz hn
            have hst := HST.out w' hI.upd
            refine op_value (wanted_free _ _ (by rfl)) (v := .string sx) (w'' := w') ?_ (hK _ _ (hI.set _) (fun _ _ h => h) rfl)
            clear hK
            simp only [execOp, e15]
            have f15 : a'.tmps[15]?.getD undef = .pointer (some ⟨bl, ol + i * 33, none⟩) := (Array.getD_eq_getD_getElem? ..).symm.trans e15
            clear e15
            first | rfl | (go_simp <;> exact IntWalk.i64_in _ (by omega))
          · intro l a' w' K hI hcl hsz hn hd hq hK
            have e11 : a'.eval (.tmp 11) = .agg hc := (hd 0 11 (by kernel_rfl))
            have e16 : a'.eval (.tmp 16) = .string sx := (hd 5 16 (by kernel_rfl))
            clear hd hq
            have h6 : l.getD 7 false = false := hcl 7 6 (by kernel_rfl) hn
            refine op_call #[.agg hc, .string sx] (wanted_free _ _ (by rfl)) rfl Try.func51 (by kernel_rfl) rfl (by simp [e11, e16]) ?_
            rw [EHC.out]
            refine (refNext_any hd sx w' HHL.out (Nat.le_trans HXS.out (by decide))).mono ?_
            rw [HXB.out, ← EH2.out, ← EHC2.out]
            rintro e w6 ⟨rfl, hb⟩
            have hI2 : HeadU wr w.heap.size 7 hd l w6 := ⟨hI.upd.below hb, Nat.lt_of_lt_of_le hI.lt hb.size, fun h => (hI.head h).below hb hI.lt⟩
            refine ⟨_, rfl, hK _ _ (hI2.set _) (fun j u => by match j with | 7 => exact fun h => Arr.below h hb hI.lt | 0 | 1 | 2 | 3 | 4 | 5 | 6 => exact fun h => h | _ + 8 => exact fun _ => trivial) rfl⟩
          · intro l a' w' K hI hcl hsz hn hd hq hK
            have e3 : a'.eval (.tmp 3) = .pointer (some ⟨w.heap.size, 0, none⟩) := (hq 3 (by kernel_rfl)).trans rfl
            have e17 : a'.eval (.tmp 17) = .agg hc2 := (hd 6 17 (by kernel_rfl))
            clear hd hq
            have hrow : w'.heap[w.heap.size]? = some (.cells hc 86) := by rw [EHC.out]; exact hI.head hn
            have hnew : Arr (w'.setRow w.heap.size hc2) w.heap.size 86 (bv h2) := by
              have h := setRow_heap w' w.heap.size _ hc2 _ _ hrow
              rw [EHC2.out] at h ⊢
              exact h
            have hI2 : HeadU wr w.heap.size 7 hd (l.setIfInBounds 7 true) (w'.setRow w.heap.size hc2) := ⟨upd_setRow hI.upd w.heap.size hc2 (fun _ => rfl), hnew.lt, fun h => by
              exfalso
              rw [Array.getD_eq_getD_getElem?, Array.getElem?_setIfInBounds, if_pos rfl, if_pos (by rw [hsz]; exact of_decide_eq_true (by kernel_rfl))] at h
              simp at h⟩
            refine op_do (wanted_free _ _ (by rfl)) ?_
            refine wp_store_row 86 _ _ rfl w.heap.size hc2 e3 e17 86 hc hrow HCZ2.out (by rw [HCS.out, HCS2.out]) HONE2.out ?_
            exact hK undef _ hI2 (fun j u => by match j with | 7 => exact fun _ => hnew | 0 | 1 | 2 | 3 | 4 | 5 | 6 => exact fun h => h | _ + 8 => exact fun _ => trivial) hnew
        case fin5 =>
          rintro l w' hsz hall hI _ rfl _ rfl _ rfl _ rfl _ rfl _ rfl _ rfl _ hst6
          simp only [Act.put, List.setIfInBounds_toArray, List.set_cons_zero, List.set_cons_succ, FinGoal]
          go_wp2_with fail
          go_meet
          exact ⟨hst6, hI.upd⟩
      case rest =>
        obtain ⟨hA6, hU6⟩ := hcut
        have HA6 := Lib.hid hA6
        have HB6 := Lib.hid (below_upd HB.out HB.out.size hU6 (fun k hk => by rw [hk]; exact Nat.le_refl _))
        clear hA6 hU6
        go_upto_region 6 with fail
        refine region_by (fun W => W = wc.drew) [fun v _ => v = .agg hc2, (fun v _ => v = .slice (some ⟨bl, ol, none⟩) M.length c), (fun v _ => v = .int .i64 (i : Int)), (fun v _ => v = .pointer (some ⟨bl, ol + i * 33, none⟩)), (fun v _ => v = .pointer (some ⟨bl, ol + i * 33 + 1, none⟩)), fun v _ => v = .agg gc, fun v _ => v = .bool (!qq)] (by kernel_rfl) (by kernel_rfl) (by kernel_rfl) rfl (rfl) ?ok6 ?fin6
        case ok6 =>
          refine ⟨?_, ?_, ?_, ?_, ?_, ?_, ?_, trivial⟩
          · intro a' w' K hI hd hq hK
            have e3 : a'.eval (.tmp 3) = .pointer (some ⟨w.heap.size, 0, none⟩) := (hq 3 (by kernel_rfl)).trans rfl
            clear hd hq
            subst hI
            have hrow : wc.drew.heap[w.heap.size]? = some (.cells hc2 86) := by rw [EHC2.out]; exact HA6.out.drew
            refine op_value (wanted_free _ _ (by rfl)) (v := .agg hc2) (w'' := wc.drew) ?_ (hK _ _ rfl (fun _ _ h => h) rfl)
            simp only [execOp, e3, Instr.loadAt, Instr.sureAddr, Sem.run_bind, Sem.run_pure, Result.andThen_ok, run_loadVar_row wc.drew w.heap.size 86 86 hc2 (0, 0) _ hrow Try.underlying86 rfl HCZ2.out]
          · intro a' w' K hI hd hq hK
            have e0 : a'.eval (.tmp 0) = .slice (some ⟨bl, ol, none⟩) M.length c := (hq 0 (by kernel_rfl)).trans rfl
            clear hd hq
            refine op_value (wanted_free _ _ (by rfl)) (v := .slice (some ⟨bl, ol, none⟩) M.length c) (w'' := w') ?_ (hK _ _ hI (fun _ _ h => h) rfl)
            clear hK
            simp only [execOp, e0]
            have f0 : a'.tmps[0]?.getD undef = .slice (some ⟨bl, ol, none⟩) M.length c := (Array.getD_eq_getD_getElem? ..).symm.trans e0
            clear e0
            first | rfl | (go_simp <;> exact IntWalk.i64_in _ (by omega))
          · intro a' w' K hI hd hq hK
            have e4 : a'.eval (.tmp 4) = .int .i64 (i : Int) := (hq 4 (by kernel_rfl)).trans rfl
            clear hd hq
            refine op_value (wanted_free _ _ (by rfl)) (v := .int .i64 (i : Int)) (w'' := w') ?_ (hK _ _ hI (fun _ _ h => h) rfl)
            clear hK
            simp only [execOp, e4]
            have f4 : a'.tmps[4]?.getD undef = .int .i64 (i : Int) := (Array.getD_eq_getD_getElem? ..).symm.trans e4
            clear e4
            first | rfl | (go_simp <;> exact IntWalk.i64_in _ (by omega))
          · intro a' w' K hI hd hq hK
            have e19 : a'.eval (.tmp 19) = .slice (some ⟨bl, ol, none⟩) M.length c := (hd 1 19 (by kernel_rfl))
            have e20 : a'.eval (.tmp 20) = .int .i64 (i : Int) := (hd 2 20 (by kernel_rfl))
            clear hd hq
            refine op_value (wanted_free _ _ (by rfl)) (v := .pointer (some ⟨bl, ol + i * 33, none⟩)) (w'' := w') ?_ (hK _ _ hI (fun _ _ h => h) rfl)
            clear hK
            simp only [execOp, e19, e20]
            have f19 : a'.tmps[19]?.getD undef = .slice (some ⟨bl, ol, none⟩) M.length c := (Array.getD_eq_getD_getElem? ..).symm.trans e19
            have f20 : a'.tmps[20]?.getD undef = .int .i64 (i : Int) := (Array.getD_eq_getD_getElem? ..).symm.trans e20
            clear e19 e20
            first | rfl | (go_simp <;> exact IntWalk.i64_in _ (by omega))
          · intro a' w' K hI hd hq hK
            have e21 : a'.eval (.tmp 21) = .pointer (some ⟨bl, ol + i * 33, none⟩) := (hd 3 21 (by kernel_rfl))
            clear hd hq
            refine op_value (wanted_free _ _ (by rfl)) (v := .pointer (some ⟨bl, ol + i * 33 + 1, none⟩)) (w'' := w') ?_ (hK _ _ hI (fun _ _ h => h) rfl)
            clear hK
            simp only [execOp, e21]
            have f21 : a'.tmps[21]?.getD undef = .pointer (some ⟨bl, ol + i * 33, none⟩) := (Array.getD_eq_getD_getElem? ..).symm.trans e21
            clear e21
            first | rfl | (go_simp <;> exact IntWalk.i64_in _ (by omega))
          · intro a' w' K hI hd hq hK
            have e22 : a'.eval (.tmp 22) = .pointer (some ⟨bl, ol + i * 33 + 1, none⟩) := (hd 4 22 (by kernel_rfl))
            clear hd hq
            subst hI
            refine op_value (wanted_free _ _ (by rfl)) (v := .agg gc) (w'' := wc.drew) ?_ (hK _ _ rfl (fun _ _ h => h) rfl)
            rw [EGC.out]
            simp only [execOp, e22, Instr.loadAt, Instr.sureAddr, Sem.run_bind, Sem.run_pure, Result.andThen_ok, run_loadVar_mid wc.drew bl (ol + i * 33 + 1) 86 (bv g) _ (HRM.out _ HB6.out.drew) Try.underlying86 rfl (by rw [bv_length, HGLN.out]; exact info72)]
          · intro a' w' K hI hd hq hK
            have e18 : a'.eval (.tmp 18) = .agg hc2 := (hd 0 18 (by kernel_rfl))
            have e23 : a'.eval (.tmp 23) = .agg gc := (hd 5 23 (by kernel_rfl))
            clear hd hq
            refine op_value (wanted_free _ _ (by rfl)) (v := .bool (!qq)) (w'' := w') ?_ (hK _ _ hI (fun _ _ h => h) rfl)
            simp only [execOp, e18, e23, Sem.run_bind, run_eqGuard_agg w' _ 86 _ _ _ _ (show Try.prog.eqGuardType Try.prog.depth 86 = false by kernel_rfl), run_neq_struct, HEQ.out w', Result.andThen_ok, Sem.run_pure]
        case fin6 =>
          rintro w' hI _ rfl _ rfl _ rfl _ rfl _ rfl _ rfl _ rfl
          simp only [Act.put, List.setIfInBounds_toArray, List.set_cons_zero, List.set_cons_succ, FinGoal]
          subst hI
          cases qq with
          | true =>
            go_wp2_with fail
            go_roundg (M.length - (i + 1))
            case measure => have := HK.out; have := HLT.out; omega
            case rel =>
              refine ⟨i + 1, HLT.out, rfl, by go_num, by rw [HT.out]; exact HA6.out.drew, fun j hj => ?_, HB6.out.drew⟩
              by_cases hji : j = i
              · rw [hji]; exact EQ.out.symm
              · exact HGD.out j (by omega)
          | false =>
            go_wp2_with fail
            go_ret
            exact ⟨by rw [EK.out, checkOf_bad M i HLT.out HGD.out EQ.out.symm]; rfl, HB6.out.drew⟩
    · obtain rfl : i = M.length := by omega
      go_wp2_with fail
      go_ret
      exact ⟨by rw [EK.out, checkOf_good M HGD.out]; rfl, HB.out⟩

end Go.Proofs.Ytjakhemolecbnaa
end

/-
  The walks of the reference's writers: Four, Text, and Encode of a chain.
-/
section
set_option linter.unusedVariables false
set_option linter.unusedSimpArgs false
namespace Go.Proofs.Ytjakhemolecbnaa
open Go.RowKit

theorem be4_cells (m : Nat) (hm : m ≤ 2147483647) : bv (be4n m) = [.int .u8 ((m : Int) / 16777216), .int .u8 ((m : Int) / 65536 % 256), .int .u8 ((m : Int) / 256 % 256), .int .u8 ((m : Int) % 256)] := by
  have e : ∀ x : Nat, un8 (UInt8.ofNat x) = ((x % 256 : Nat) : Int) := fun x => by unfold un8; rw [UInt8.toNat_ofNat']
  show [Value.int .u8 (un8 (UInt8.ofNat (m / 16777216))), Value.int .u8 (un8 (UInt8.ofNat (m / 65536))), Value.int .u8 (un8 (UInt8.ofNat (m / 256))), Value.int .u8 (un8 (UInt8.ofNat m))] = _
  rw [e, e, e, e]
  have e1 : ((m / 16777216 % 256 : Nat) : Int) = (m : Int) / 16777216 := by omega
  have e2 : ((m / 65536 % 256 : Nat) : Int) = (m : Int) / 65536 % 256 := by omega
  have e3 : ((m / 256 % 256 : Nat) : Int) = (m : Int) / 256 % 256 := by omega
  have e4 : ((m % 256 : Nat) : Int) = (m : Int) % 256 := by omega
  rw [e1, e2, e3, e4]

set_option maxRecDepth 100000 in
set_option maxHeartbeats 4000000 in
theorem refFour_any (A : Option Addr) (n c : Nat) (b : List UInt8) (m : Nat) (w : World) (hl : b.length = n) (hb : b.length ≤ 100000000) (hr : RB w A b) (hm : m ≤ 2147483647) :
    Calls Try.prog 50 #[.slice A n c, .int .i64 (m : Int)] w fun e w' => ∃ v, e = .returned v ∧ w'.ownsRow w.heap.size 5 1 v (b.length + 4) (bv (b ++ be4n m)) ∧ Below w.heap.size w w' := by
  subst hl
  have HR := Lib.hid hr
  clear hr
  have hb0 : Below w.heap.size w (w.alloc (.cells #[] 5)) := (Below.refl _ _).alloc (Nat.le_refl _) _
  have E0 := Lib.hid (show (w.alloc (.cells #[] 5)).ownsRow w.heap.size 5 1 (.slice (some ⟨w.heap.size, 0, none⟩) 0 0) 0 [] from
    ⟨rfl, .inr ⟨_, 0, #[], rfl, Nat.le_refl _, heap_alloc_new w _, Nat.le_refl _, by simp [maxLen], rfl, rfl⟩⟩)
  have HB0 := Lib.hid hb0
  clear hb0
  go_enter Try.func50, Try.ntmps50
  go_wp2_with (at_builtin; refine append_any rfl (.tmp 5) (.tmp 6) 25 rfl w.heap.size 5 (.int .u8 0) 1 1 Try.underlying25 info8 rfl (by omega) (by omega) (.slice (some ⟨w.heap.size, 0, none⟩) 0 0) 0 [] rfl E0.out A b.length c (bv b) rfl (by rw [bv_length]; omega) (HR.out.below HB0.out).cells (bv_one _) (by omega) HB0.out.size ?_)
  intro v4 w4 ho4 hg4 hat4
  obtain ⟨A4, c4, rfl, _⟩ := own_slice ho4
  have ho4' : w4.ownsRow w.heap.size 5 1 (.slice A4 b.length c4) b.length (bv b) := ho4
  have HB4 := Lib.hid (below_upd (F := fun k => k = w.heap.size) HB0.out HB0.out.size ((Upd.refl (fun k => k = w.heap.size) (w.alloc (.cells #[] 5))).grown hg4 (fun k hk _ => (Option.some.inj (show some w.heap.size = some k from hk)).symm)) (fun k hk => by rw [hk]; exact Nat.le_refl _))
  have HC := Lib.hid (be4_cells m hm)
  have HO4 := Lib.hid ho4'
  clear ho4 ho4' hg4 hat4
  go_wp2_with (at_builtin; refine append_any rfl (.tmp 7) (.tmp 19) 25 rfl w.heap.size 5 (.int .u8 0) 1 1 Try.underlying25 info8 rfl (by omega) (by omega) (.slice A4 b.length c4) b.length (bv b) rfl (HO4.out.alloc _) (some ⟨w4.heap.size, 0, none⟩) 4 4 [.int .u8 ((m : Int) / 16777216), .int .u8 ((m : Int) / 65536 % 256), .int .u8 ((m : Int) / 256 % 256), .int .u8 ((m : Int) % 256)] rfl rfl (RC_newL w4 _ _) (by rw [← HC.out]; exact bv_one _) (by omega) (by have := HB4.out.size; simp; omega) ?_)
  intro v5 w5 ho5 hg5 hat5
  have HB5 := Lib.hid (below_upd (F := fun k => (Value.slice A4 b.length c4).ownBlock = some k) HB4.out HB4.out.size (((Upd.refl (fun k => (Value.slice A4 b.length c4).ownBlock = some k) w4).alloc _).grown hg5 (fun k hk _ => hk)) (fun k hk => (HO4.out.lt k hk).1))
  have HO5 := Lib.hid (show w5.ownsRow w.heap.size 5 1 v5 (b.length + 4) (bv (b ++ be4n m)) by rw [bv_append, HC.out]; simpa using ho5)
  clear ho5 hg5 hat5
  go_wp2_with fail
  go_ret
  exact ⟨_, rfl, HO5.out, HB5.out⟩

set_option maxRecDepth 100000 in
set_option maxHeartbeats 4000000 in
theorem refText_any (A : Option Addr) (n c : Nat) (b : List UInt8) (s : List UInt8) (w : World) (hl : b.length = n) (hb : b.length ≤ 90000000) (hr : RB w A b) (hs : s.length ≤ 1500000) :
    Calls Try.prog 45 #[.slice A n c, .string (strB s)] w fun e w' => ∃ v, e = .returned v ∧ w'.ownsRow w.heap.size 5 1 v (b.length + 4 + s.length) (bv (b ++ be4n s.length ++ s)) ∧ Below w.heap.size w w' := by
  subst hl
  have HR := Lib.hid hr
  have HSZ := Lib.hid (strB_size s)
  have HSL := Lib.hid (show Lib.strCells (strB s) = bv s by rw [strCells_bv, strB_toList])
  obtain ⟨i8, hi8, hz8⟩ := Option.map_eq_some_iff.1 info8
  simp only [Prod.mk.injEq] at hz8
  have HI8 := Lib.hid hi8
  have HZ8 := Lib.hid hz8
  obtain ⟨z, hz⟩ : ∃ z, z = strB s := ⟨_, rfl⟩
  rw [← hz] at HSZ HSL ⊢
  clear hr hi8 hz8 hz
  go_enter Try.func45, Try.ntmps45
  go_wp2_with fail
  rw [HSZ.out]
  refine (refFour_any A b.length c b s.length w rfl (by omega) HR.out (by omega)).mono ?_
  rintro e w1 ⟨v1, rfl, ho, hb1⟩
  obtain ⟨A1, c1, rfl, _⟩ := own_slice ho
  have HO := Lib.hid ho
  have HB1 := Lib.hid hb1
  clear ho hb1
  go_wp2_with (at_builtin; refine wpList_append_str rfl (.tmp 8) (.tmp 9) 25 9 rfl w.heap.size 5 i8 Try.underlying25 Try.underlying9 HI8.out HZ8.out.1 HZ8.out.2.1 HZ8.out.2.2 (.slice A1 (b.length + 4) c1) (b.length + 4) (bv (b ++ be4n s.length)) rfl HO.out (by omega) z rfl (by rw [HSZ.out]; omega) HB1.out.size ?_)
  intro v5 w5 ho5 hg5 hat5
  have HB5 := Lib.hid (below_upd (F := fun k => (Value.slice A1 (b.length + 4) c1).ownBlock = some k) HB1.out HB1.out.size ((Upd.refl (fun k => (Value.slice A1 (b.length + 4) c1).ownBlock = some k) w1).grown hg5 (fun k hk _ => hk)) (fun k hk => (HO.out.lt k hk).1))
  have HO5 := Lib.hid (show w5.ownsRow w.heap.size 5 1 v5 (b.length + 4 + s.length) (bv (b ++ be4n s.length ++ s)) by rw [bv_append, ← HSL.out, ← HSZ.out]; rw [HSZ.out] at ho5 ⊢; exact ho5)
  clear ho5 hg5 hat5
  go_wp2_with fail
  go_ret
  exact ⟨_, rfl, HO5.out, HB5.out⟩
end Go.Proofs.Ytjakhemolecbnaa
end
