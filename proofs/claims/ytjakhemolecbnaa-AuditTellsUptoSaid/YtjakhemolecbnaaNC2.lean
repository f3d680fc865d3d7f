/-
  The texts ChainCheckG of this proof in one (what is used of them): what each proves is said at its head. No conditions beyond those that each theorem says.
-/
import Derived.Test.YtjakhemolecbnaaNC

/-
  The walk of Check, of any chain.
-/
section
set_option linter.unusedVariables false
set_option linter.unusedSimpArgs false
namespace Go.Proofs.Ytjakhemolecbnaa
open Go.RowKit

/-- The link's head is that of what stands ahead of it and its text. -/
def goodAt (M : List (List UInt8 × List UInt8)) (i : Nat) : Bool := decide ((M.getD i ([], [])).2 = headOf ((M.take (i + 1)).map (·.1)))
/-- The first link whose head is wrong. -/
def checkOf (M : List (List UInt8 × List UInt8)) : Nat := ((List.range M.length).find? fun i => !goodAt M i).getD M.length
theorem checkOf_bad (M : List (List UInt8 × List UInt8)) (i : Nat) (hi : i < M.length) (h : ∀ j, j < i → goodAt M j = true) (hb : goodAt M i = false) : checkOf M = i := by
  have e : (List.range M.length).find? (fun i => !goodAt M i) = some i := by
    rw [List.find?_range_eq_some]
    exact ⟨by simp [hb], by simp [hi], fun j hj => by simp [h j hj]⟩
  rw [checkOf, e]
  rfl
theorem checkOf_good (M : List (List UInt8 × List UInt8)) (h : ∀ j, j < M.length → goodAt M j = true) : checkOf M = M.length := by
  have e : (List.range M.length).find? (fun i => !goodAt M i) = none := by
    rw [List.find?_eq_none]
    intro j hj
    simp [h j (List.mem_range.1 hj)]
  rw [checkOf, e]
  rfl
theorem checkOf_le (M : List (List UInt8 × List UInt8)) : checkOf M ≤ M.length := by
  unfold checkOf
  cases e : (List.range M.length).find? (fun i => !goodAt M i) with
  | none => simp
  | some i =>
    have := List.mem_range.1 (List.mem_of_find?_eq_some e)
    simp
    omega

set_option maxRecDepth 100000 in
set_option maxHeartbeats 8000000 in
theorem check_any (A : Option Addr) (n c : Nat) (M : List (List UInt8 × List UInt8)) (w : World) (hl : M.length = n) (hn : n ≤ 100000) (hs : ∀ x ∈ M, x.1.length ≤ 1000000) (hh : ∀ x ∈ M, x.2.length = 32) (hr : RC w A (lv M)) :
    Calls Try.prog 68 #[.slice A n c] w fun e w' => e = .returned (.int .i64 (checkOf M : Int)) ∧ Below w.heap.size w w' := by
  subst hl
  obtain ⟨K, eK⟩ : ∃ K, K = checkOf M := ⟨_, rfl⟩
  rw [← eK]
  have EK := Lib.hid eK
  have HH := Lib.hid hh
  clear eK hh
  have HL := Lib.hid hr
  have HSM := Lib.hid hs
  have HN := Lib.hid hn
  clear hr hs
  obtain ⟨z32, hz32⟩ : ∃ z32, z32 = (bv (List.replicate 32 0)).toArray := ⟨_, rfl⟩
  obtain ⟨z33, hz33⟩ : ∃ z33, z33 = (lk ([], hd0)).toArray := ⟨_, rfl⟩
  have HZ33 := Lib.hid hz33
  clear hz33
  go_enter Try.func68, Try.ntmps68
  go_upto_region 1 with fail
  refine wp_region_lit ?_
  refine Great.wpList_allocTo rfl _ rfl (.pointer (some ⟨w.heap.size, 0, none⟩)) (.cells z32 86) ?x1 ?_
  case x1 => rw [hz32]; kernel_rfl
  refine wpList_nil ?_
  rename_i hK
  refine hK _ _ ?_
  clear hK
  obtain ⟨w1, hw1⟩ : ∃ w1, w1 = w.alloc (.cells z32 86) := ⟨_, rfl⟩
  rw [← hw1]
  have HA1 := Lib.hid (show Arr w1 w.heap.size 86 (bv (headOf [])) by rw [hw1, hz32]; exact Arr.new _ _ _)
  have HB1 := Lib.hid (show Below w.heap.size w w1 by rw [hw1]; exact (Below.refl _ _).alloc (Nat.le_refl _) _)
  clear hw1 hz32
  go_wp2_with fail
  go_loopg [8] M.length (fun k s8 wr => ∃ i : Nat, i ≤ M.length ∧ k = M.length - i ∧ s8 = .int .i64 (i : Int) ∧ Arr wr w.heap.size 86 (bv (headOf ((M.take i).map (·.1)))) ∧ (∀ j, j < i → goodAt M j = true) ∧ Below w.heap.size w wr)
  case atStart => exact ⟨0, Nat.zero_le _, by omega, rfl, HA1.out, fun j hj => absurd hj (Nat.not_lt_zero _), HB1.out⟩
  case round =>
    obtain ⟨i, hi, hk, rfl, ha, hgd, hb⟩ := hrel
    have HK := Lib.hid hk
    have HGD := Lib.hid hgd
    have HA := Lib.hid ha
    have HB := Lib.hid hb
    clear hk ha hb hgd HA1 HB1
    by_cases hlt : i < M.length
    · obtain ⟨bl, ol, rfl, e1⟩ := HL.out.parts (by rw [lv_length _ HH.out]; omega)
      have hRG := lk_range HH.out (fun j u hj => cell_below HB.out (e1 j u hj)) i hlt
      have hxs : (M[i]).1.length ≤ 1000000 := HSM.out _ (List.getElem_mem hlt)
      have hgl : (M[i]).2.length = 32 := HH.out _ (List.getElem_mem hlt)
      have hT : (M.take (i + 1)).map (·.1) = (M.take i).map (·.1) ++ [(M[i]).1] := by rw [List.take_succ_eq_append_getElem hlt, List.map_append]; rfl
      have hq : goodAt M i = decide ((M[i]).2 = nextOf (headOf ((M.take i).map (·.1))) (M[i]).1) := by
        unfold goodAt
        rw [hT, headOf_snoc, List.getD_eq_getElem?_getD, List.getElem?_eq_getElem hlt]
        rfl
      have HT := Lib.hid (show headOf ((M.take (i + 1)).map (·.1)) = nextOf (headOf ((M.take i).map (·.1))) (M[i]).1 by rw [hT, headOf_snoc])
      generalize M[i] = xg at *
      obtain ⟨x, g⟩ := xg
      simp only at hxs hgl hq HT
      obtain ⟨hd, ehd⟩ : ∃ hd, hd = headOf ((M.take i).map (·.1)) := ⟨_, rfl⟩
      have hhl : hd.length = 32 := by rw [ehd]; exact headOf_length _
      rw [← ehd] at HA hq HT
      obtain ⟨h2, eh2⟩ : ∃ h2, h2 = nextOf hd x := ⟨_, rfl⟩
      have hhl2 : h2.length = 32 := by rw [eh2]; exact nextOf_length _ _
      rw [← eh2] at hq HT
      have hlkl := lk_length (x, g) hgl
      obtain ⟨lc, elc⟩ : ∃ lc, lc = lk (x, g) := ⟨_, rfl⟩
      have hfst : lc = .string (strB x) :: bv g := elc
      rw [← elc] at hlkl hRG
      have hil : (Try.prog.info? 92).map (·.size) = some lc.length := by rw [hlkl]; exact info33
      have hone : lc.toArray.all (·.oneCell') = true := by rw [elc]; exact all_oneCell_toArray (lk_one _)
      obtain ⟨hc, ehc⟩ : ∃ hc, hc = (bv hd).toArray := ⟨_, rfl⟩
      have hcs : hc.size = 32 := by rw [ehc, List.size_toArray, bv_length, hhl]
      have hcz : (Try.prog.info? 86).map (·.size) = some hc.size := by rw [hcs]; exact info72
      obtain ⟨hc2, ehc2⟩ : ∃ hc2, hc2 = (bv h2).toArray := ⟨_, rfl⟩
      have hcs2 : hc2.size = 32 := by rw [ehc2, List.size_toArray, bv_length, hhl2]
      have hcz2 : (Try.prog.info? 86).map (·.size) = some hc2.size := by rw [hcs2]; exact info72
      have hone2 : hc2.all (·.oneCell') = true := by rw [ehc2]; exact all_oneCell_toArray (bv_one _)
      obtain ⟨gc, egc⟩ : ∃ gc, gc = (bv g).toArray := ⟨_, rfl⟩
      obtain ⟨q, eq⟩ : ∃ q, q = goodAt M i := ⟨_, rfl⟩
      have HEQ := Lib.hid (show ∀ W, (Op.equalIn 10000 86 (.agg gc) (.agg hc2)).run Try.prog W = .ok q W by
        intro W
        rw [egc, ehc2, eq32 g h2 hgl hhl2, eq, hq])
      have EGC := Lib.hid egc
      have HGL := Lib.hid hgl
      have EQ := Lib.hid eq
      clear egc hgl eq hq hT
      have hi0 : (0 : Int) ≤ (i : Int) := by omega
      have hi1 : (i : Int) < (M.length : Int) := by omega
      have HXS := Lib.hid (show (strB x).size ≤ 1000000 by rw [strB_size]; exact hxs)
      have HLT := Lib.hid hlt
      have HRG := Lib.hid hRG
      have HIL := Lib.hid hil
      have HLKL := Lib.hid hlkl
      have HONE := Lib.hid hone
      have HFST := Lib.hid hfst
      have HHL := Lib.hid hhl
      have HHL2 := Lib.hid hhl2
      have EHC := Lib.hid ehc
      have HCS := Lib.hid hcs
      have HCZ := Lib.hid hcz
      have EHC2 := Lib.hid ehc2
      have HCS2 := Lib.hid hcs2
      have HCZ2 := Lib.hid hcz2
      have HONE2 := Lib.hid hone2
      have EH2 := Lib.hid eh2
      clear e1 hRG hxs ehd hhl eh2 hhl2 hlkl elc hfst hil hone ehc hcs hcz ehc2 hcs2 hcz2 hone2 hlt hi
      go_upto_region 4 with fail
      refine wp_region_lit ?_
      refine Great.wpList_readTo rfl _ rfl (.int .i64 (i : Int)) rfl ?_
      refine Great.wpList_readTo rfl _ rfl (.pointer (some ⟨bl, ol + i * 33, none⟩)) ?h1 ?_
      case h1 =>
        simp only [execOp]
        go_simp
      refine wpList_load_mid rfl 92 (.tmp 11) rfl bl (ol + i * 33) rfl lc _ HRG.out Try.underlying92 rfl HIL.out ?_
      obtain ⟨z, hz⟩ : ∃ z, z = wr.heap.size := ⟨_, rfl⟩
      refine Great.wpList_allocTo rfl _ rfl (.pointer (some ⟨z, 0, none⟩)) (.cells z33 92) ?h2 ?_
      case h2 => rw [HZ33.out, hz]; kernel_rfl
      refine Great.wpList_readTo rfl _ rfl (.int .i64 (i : Int)) rfl ?_
      refine wpList_store_row rfl 92 (.tmp 5) (.tmp 12) rfl z lc.toArray rfl rfl 92 z33 (by rw [hz]; exact heap_alloc_new wr _) (by rw [List.size_toArray]; exact HIL.out) (by rw [HZ33.out, List.size_toArray, List.size_toArray, HLKL.out]; rfl) HONE.out ?_
      refine wpList_nil ?_
      rename_i hK
      refine hK _ _ ?_
      clear hK
      obtain ⟨w5, hw5⟩ : ∃ w5, w5 = (wr.alloc (.cells z33 92)).setRow z lc.toArray := ⟨_, rfl⟩
      rw [← hw5]
      have hz5 : w5.heap[z]? = some (.cells lc.toArray 92) := by rw [hw5, hz]; exact setRow_heap _ _ _ _ _ _ (heap_alloc_new wr _)
      have cz : w5.cell? ⟨z, 0, none⟩ = some (.string (strB x)) := by
        rw [cell_of_row w5 z 0 _ _ _ hz5, HFST.out]
        rfl
      have HB5 := Lib.hid (show Below wr.heap.size wr w5 by rw [hw5]; exact below_setRow ((Below.refl _ _).alloc (Nat.le_refl _) _) _ _ (by omega))
      have HA5 := Lib.hid (show w5.heap[w.heap.size]? = some (.cells hc 86) from (HB5.out.block w.heap.size (Arr.lt HA.out)).trans (by rw [EHC.out]; exact HA.out))
      have HBB := Lib.hid (below_below HB.out HB.out.size HB5.out)
      have HZ5 := Lib.hid hz5
      have HZW := Lib.hid (show w.heap.size < z by rw [hz]; exact Arr.lt HA.out)
      clear hw5 hz5 hz HB5
      go_upto_region 5 with fail
      refine wp_region_lit ?_
      refine wpList_load_row rfl 86 (.tmp 3) rfl w.heap.size rfl 86 hc (0, 0) _ HA5.out Try.underlying86 rfl HCZ.out ?_
      go_wp2_with fail
      rw [EHC.out]
      refine (next_any hd (strB x) w5 HHL.out HXS.out).mono ?_
      rw [strB_toList, ← EH2.out, ← EHC2.out]
      rintro e w6 ⟨rfl, hb6⟩
      have HA6 := Lib.hid (show w6.heap[w.heap.size]? = some (.cells hc 86) from (hb6.block w.heap.size (Array.getElem?_eq_some_iff.1 HA5.out).1).trans HA5.out)
      have HZ6 := Lib.hid ((hb6.block z (Array.getElem?_eq_some_iff.1 HZ5.out).1).trans HZ5.out)
      have HB6 := Lib.hid (below_below HBB.out HBB.out.size hb6)
      clear hb6 cz
      go_upto_region 6 with (refine wpList_store_row rfl 86 (.tmp 3) (.tmp 16) rfl w.heap.size hc2 rfl rfl 86 hc HA6.out HCZ2.out (by rw [HCS.out, HCS2.out]) HONE2.out ?_)
      obtain ⟨w7, hw7⟩ : ∃ w7, w7 = w6.setRow w.heap.size hc2 := ⟨_, rfl⟩
      rw [← hw7]
      have HA7 := Lib.hid (show w7.heap[w.heap.size]? = some (.cells hc2 86) by rw [hw7]; exact setRow_heap _ _ _ _ _ _ HA6.out)
      have hZ7 : w7.heap[z]? = some (.cells lc.toArray 92) := by rw [hw7]; exact (setRow_other _ _ _ _ (by have := HZW.out; omega)).trans HZ6.out
      have HB7 := Lib.hid (show Below w.heap.size w w7 by rw [hw7]; exact below_setRow HB6.out _ _ (Nat.le_refl _))
      have HRZ := Lib.hid (show w7.rangeAt z 1 (bv g) by
        intro j v hj
        rw [cell_of_row w7 z (1 + j) _ _ _ hZ7, HFST.out, Nat.add_comm 1 j]
        simpa using hj)
      clear hw7 hZ7
      refine wp_region_lit ?_
      refine Great.wpList_readTo rfl _ rfl (.pointer (some ⟨z, 1, none⟩)) ?h3 ?_
      case h3 =>
        simp only [execOp]
        go_simp
      refine wpList_load_mid rfl 86 (.tmp 17) rfl z 1 rfl (bv g) _ HRZ.out Try.underlying86 rfl (by rw [bv_length, HGL.out]; exact info72) ?_
      rw [← EGC.out]
      refine wpList_load_row rfl 86 (.tmp 3) rfl w.heap.size rfl 86 hc2 (0, 0) _ HA7.out Try.underlying86 rfl HCZ2.out ?_
      refine Great.wpList_readTo rfl _ rfl (.bool (!q)) ?h4 ?_
      case h4 =>
        have ea : ∀ (a : Act), a.tmps.getD 18 undef = .agg gc → a.tmps.getD 19 undef = .agg hc2 → (execOp a.eval { dst := some 20, op := .binOp .neq 86 (.tmp 18) (.tmp 19) 86, type := 4, pos := "", after := #[], guard := none }).run Try.prog w7 = .ok (.value (.bool (!q))) w7 := by
          intro a h18 h19
          have h18' : a.eval (.tmp 18) = .agg gc := h18
          have h19' : a.eval (.tmp 19) = .agg hc2 := h19
          simp only [execOp, h18', h19', Sem.run_bind, run_eqGuard_agg w7 _ 86 _ _ _ _ (show Try.prog.eqGuardType Try.prog.depth 86 = false by kernel_rfl), run_neq_struct, HEQ.out w7, Result.andThen_ok, Sem.run_pure]
        exact ea _ rfl rfl
      refine wpList_nil ?_
      rename_i hK
      refine hK _ _ ?_
      clear hK
      cases q with
      | true =>
        go_wp2_with fail
        go_roundg (M.length - (i + 1))
        case measure => have := HK.out; have := HLT.out; omega
        case rel =>
          refine ⟨i + 1, HLT.out, rfl, by go_num, by rw [HT.out]; have h := HA7.out; rw [EHC2.out] at h; exact h, fun j hj => ?_, HB7.out⟩
          by_cases hji : j = i
          · rw [hji]; exact EQ.out.symm
          · exact HGD.out j (by omega)
      | false =>
        go_wp2_with fail
        go_ret
        exact ⟨by rw [EK.out, checkOf_bad M i HLT.out HGD.out EQ.out.symm]; rfl, HB7.out⟩
    · obtain rfl : i = M.length := by omega
      go_wp2_with fail
      go_ret
      exact ⟨by rw [EK.out, checkOf_good M HGD.out]; rfl, HB.out⟩

end Go.Proofs.Ytjakhemolecbnaa
end
