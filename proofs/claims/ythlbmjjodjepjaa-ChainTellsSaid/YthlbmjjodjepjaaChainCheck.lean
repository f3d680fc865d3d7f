/-
  The walk of Check, of the chain, and of the law's runs.
-/
import Derived.Test.YthlbmjjodjepjaaChainPrefix
set_option linter.unusedVariables false
set_option linter.unusedSimpArgs false
namespace Go.Proofs.Ythlbmjjodjepjaa
open Go.RowKit

set_option maxRecDepth 100000 in
set_option maxHeartbeats 8000000 in
theorem check_made (A : Option Addr) (n c : Nat) (L : List (List UInt8)) (w : World) (hl : L.length = n) (hn : n ≤ 100000) (hs : ∀ x ∈ L, x.length ≤ 1000000) (hr : RC w A (lv (mkOf L))) :
    Calls Try.prog 47 #[.slice A n c] w fun e w' => e = .returned (.int .i64 (n : Int)) ∧ Below w.heap.size w w' := by
  subst hl
  have HL := Lib.hid hr
  have HSM := Lib.hid hs
  have HN := Lib.hid hn
  clear hr hs
  obtain ⟨z32, hz32⟩ : ∃ z32, z32 = (bv (List.replicate 32 0)).toArray := ⟨_, rfl⟩
  obtain ⟨z33, hz33⟩ : ∃ z33, z33 = (lk ([], hd0)).toArray := ⟨_, rfl⟩
  have HZ33 := Lib.hid hz33
  clear hz33
  go_enter Try.func47, Try.ntmps47
  go_upto_region 1 with fail
  refine wp_region_lit ?_
  refine Great.wpList_allocTo rfl _ rfl (.pointer (some ⟨w.heap.size, 0, none⟩)) (.cells z32 28) ?x1 ?_
  case x1 => rw [hz32]; kernel_rfl
  refine wpList_nil ?_
  rename_i hK
  refine hK _ _ ?_
  clear hK
  obtain ⟨w1, hw1⟩ : ∃ w1, w1 = w.alloc (.cells z32 28) := ⟨_, rfl⟩
  rw [← hw1]
  have HA1 := Lib.hid (show Arr w1 w.heap.size 28 (bv (headOf [])) by rw [hw1, hz32]; exact Arr.new _ _ _)
  have HB1 := Lib.hid (show Below w.heap.size w w1 by rw [hw1]; exact (Below.refl _ _).alloc (Nat.le_refl _) _)
  clear hw1 hz32
  go_wp2_with fail
  go_loopg [8] L.length (fun k s8 wr => ∃ i : Nat, i ≤ L.length ∧ k = L.length - i ∧ s8 = .int .i64 (i : Int) ∧ Arr wr w.heap.size 28 (bv (headOf (L.take i))) ∧ Below w.heap.size w wr)
  case atStart => exact ⟨0, Nat.zero_le _, by omega, rfl, HA1.out, HB1.out⟩
  case round =>
    obtain ⟨i, hi, hk, rfl, ha, hb⟩ := hrel
    have HK := Lib.hid hk
    have HA := Lib.hid ha
    have HB := Lib.hid hb
    clear hk ha hb HA1 HB1
    by_cases hlt : i < L.length
    · have hltm : i < (mkOf L).length := by rw [mkOf_length]; exact hlt
      have hheads := mkOf_heads L
      obtain ⟨bl, ol, rfl, e1⟩ := HL.out.parts (by rw [lv_length _ hheads]; omega)
      have hRG := lk_range hheads (fun j u hj => cell_below HB.out (e1 j u hj)) i hltm
      rw [mkOf_get L i hltm hlt] at hRG
      have hxs : (L[i]).length ≤ 1000000 := HSM.out _ (List.getElem_mem hlt)
      have hT := List.take_succ_eq_append_getElem hlt
      rw [hT, headOf_snoc] at hRG
      have HT := Lib.hid (show headOf (L.take (i + 1)) = nextOf (headOf (L.take i)) L[i] by rw [hT, headOf_snoc])
      generalize L[i] = x at *
      obtain ⟨hd, ehd⟩ : ∃ hd, hd = headOf (L.take i) := ⟨_, rfl⟩
      have hhl : hd.length = 32 := by rw [ehd]; exact headOf_length _
      rw [← ehd] at HA hRG HT
      obtain ⟨h2, eh2⟩ : ∃ h2, h2 = nextOf hd x := ⟨_, rfl⟩
      have hhl2 : h2.length = 32 := by rw [eh2]; exact nextOf_length _ _
      rw [← eh2] at hRG HT
      have hlkl := lk_length (x, h2) hhl2
      obtain ⟨lc, elc⟩ : ∃ lc, lc = lk (x, h2) := ⟨_, rfl⟩
      have hfst : lc = .string (strB x) :: bv h2 := elc
      rw [← elc] at hlkl hRG
      have hil : (Try.prog.info? 30).map (·.size) = some lc.length := by rw [hlkl]; exact info33
      have hone : lc.toArray.all (·.oneCell') = true := by rw [elc]; exact all_oneCell_toArray (lk_one _)
      obtain ⟨hc, ehc⟩ : ∃ hc, hc = (bv hd).toArray := ⟨_, rfl⟩
      have hcs : hc.size = 32 := by rw [ehc, List.size_toArray, bv_length, hhl]
      have hcz : (Try.prog.info? 28).map (·.size) = some hc.size := by rw [hcs]; exact info72
      obtain ⟨hc2, ehc2⟩ : ∃ hc2, hc2 = (bv h2).toArray := ⟨_, rfl⟩
      have hcs2 : hc2.size = 32 := by rw [ehc2, List.size_toArray, bv_length, hhl2]
      have hcz2 : (Try.prog.info? 28).map (·.size) = some hc2.size := by rw [hcs2]; exact info72
      have hone2 : hc2.all (·.oneCell') = true := by rw [ehc2]; exact all_oneCell_toArray (bv_one _)
      have HEQ := Lib.hid (show ∀ W, (Op.equalIn 10000 28 (.agg hc2) (.agg hc2)).run Try.prog W = .ok true W by
        intro W
        rw [ehc2, eq32 h2 h2 hhl2 hhl2, decide_eq_true rfl])
      have hi0 : (0 : Int) ≤ (i : Int) := by omega
      have hi1 : (i : Int) < (L.length : Int) := by omega
      have HXS := Lib.hid (show (strB x).size ≤ 1000000 by rw [strB_size]; exact hxs)
      have HLT := Lib.hid hlt
      have HRG := Lib.hid hRG
      have HIL := Lib.hid hil
      have HLKL := Lib.hid hlkl
      have HONE := Lib.hid hone
      have HFST := Lib.hid hfst
      have HHL := Lib.hid hhl
      have HHL2 := Lib.hid hhl2
      have EHC := Lib.hid ehc
      have HCS := Lib.hid hcs
      have HCZ := Lib.hid hcz
      have EHC2 := Lib.hid ehc2
      have HCS2 := Lib.hid hcs2
      have HCZ2 := Lib.hid hcz2
      have HONE2 := Lib.hid hone2
      have EH2 := Lib.hid eh2
      clear hltm hheads e1 hRG hxs hT ehd hhl eh2 hhl2 hlkl elc hfst hil hone ehc hcs hcz ehc2 hcs2 hcz2 hone2 hlt hi
      go_upto_region 4 with fail
      refine wp_region_lit ?_
      refine Great.wpList_readTo rfl _ rfl (.int .i64 (i : Int)) rfl ?_
      refine Great.wpList_readTo rfl _ rfl (.pointer (some ⟨bl, ol + i * 33, none⟩)) ?h1 ?_
      case h1 =>
        simp only [execOp]
        go_simp
      refine wpList_load_mid rfl 30 (.tmp 11) rfl bl (ol + i * 33) rfl lc _ HRG.out Try.underlying30 rfl HIL.out ?_
      obtain ⟨z, hz⟩ : ∃ z, z = wr.heap.size := ⟨_, rfl⟩
      refine Great.wpList_allocTo rfl _ rfl (.pointer (some ⟨z, 0, none⟩)) (.cells z33 30) ?h2 ?_
      case h2 => rw [HZ33.out, hz]; kernel_rfl
      refine Great.wpList_readTo rfl _ rfl (.int .i64 (i : Int)) rfl ?_
      refine wpList_store_row rfl 30 (.tmp 5) (.tmp 12) rfl z lc.toArray rfl rfl 30 z33 (by rw [hz]; exact heap_alloc_new wr _) (by rw [List.size_toArray]; exact HIL.out) (by rw [HZ33.out, List.size_toArray, List.size_toArray, HLKL.out]; rfl) HONE.out ?_
      refine wpList_nil ?_
      rename_i hK
      refine hK _ _ ?_
      clear hK
      obtain ⟨w5, hw5⟩ : ∃ w5, w5 = (wr.alloc (.cells z33 30)).setRow z lc.toArray := ⟨_, rfl⟩
      rw [← hw5]
      have hz5 : w5.heap[z]? = some (.cells lc.toArray 30) := by rw [hw5, hz]; exact setRow_heap _ _ _ _ _ _ (heap_alloc_new wr _)
      have cz : w5.cell? ⟨z, 0, none⟩ = some (.string (strB x)) := by
        rw [cell_of_row w5 z 0 _ _ _ hz5, HFST.out]
        rfl
      have HB5 := Lib.hid (show Below wr.heap.size wr w5 by rw [hw5]; exact below_setRow ((Below.refl _ _).alloc (Nat.le_refl _) _) _ _ (by omega))
      have HA5 := Lib.hid (show w5.heap[w.heap.size]? = some (.cells hc 28) from (HB5.out.block w.heap.size (Arr.lt HA.out)).trans (by rw [EHC.out]; exact HA.out))
      have HBB := Lib.hid (below_below HB.out HB.out.size HB5.out)
      have HZ5 := Lib.hid hz5
      have HZW := Lib.hid (show w.heap.size < z by rw [hz]; exact Arr.lt HA.out)
      clear hw5 hz5 hz HB5
      go_upto_region 5 with fail
      refine wp_region_lit ?_
      refine wpList_load_row rfl 28 (.tmp 3) rfl w.heap.size rfl 28 hc (0, 0) _ HA5.out Try.underlying28 rfl HCZ.out ?_
      go_wp2_with fail
      rw [EHC.out]
      refine (next_any hd (strB x) w5 HHL.out HXS.out).mono ?_
      rw [strB_toList, ← EH2.out, ← EHC2.out]
      rintro e w6 ⟨rfl, hb6⟩
      have HA6 := Lib.hid (show w6.heap[w.heap.size]? = some (.cells hc 28) from (hb6.block w.heap.size (Array.getElem?_eq_some_iff.1 HA5.out).1).trans HA5.out)
      have HZ6 := Lib.hid ((hb6.block z (Array.getElem?_eq_some_iff.1 HZ5.out).1).trans HZ5.out)
      have HB6 := Lib.hid (below_below HBB.out HBB.out.size hb6)
      clear hb6 cz
      go_upto_region 6 with (refine wpList_store_row rfl 28 (.tmp 3) (.tmp 16) rfl w.heap.size hc2 rfl rfl 28 hc HA6.out HCZ2.out (by rw [HCS.out, HCS2.out]) HONE2.out ?_)
      obtain ⟨w7, hw7⟩ : ∃ w7, w7 = w6.setRow w.heap.size hc2 := ⟨_, rfl⟩
      rw [← hw7]
      have HA7 := Lib.hid (show w7.heap[w.heap.size]? = some (.cells hc2 28) by rw [hw7]; exact setRow_heap _ _ _ _ _ _ HA6.out)
      have hZ7 : w7.heap[z]? = some (.cells lc.toArray 30) := by rw [hw7]; exact (setRow_other _ _ _ _ (by have := HZW.out; omega)).trans HZ6.out
      have HB7 := Lib.hid (show Below w.heap.size w w7 by rw [hw7]; exact below_setRow HB6.out _ _ (Nat.le_refl _))
      have HRZ := Lib.hid (show w7.rangeAt z 1 (bv h2) by
        intro j v hj
        rw [cell_of_row w7 z (1 + j) _ _ _ hZ7, HFST.out, Nat.add_comm 1 j]
        simpa using hj)
      clear hw7 hZ7
      refine wp_region_lit ?_
      refine Great.wpList_readTo rfl _ rfl (.pointer (some ⟨z, 1, none⟩)) ?h3 ?_
      case h3 =>
        simp only [execOp]
        go_simp
      refine wpList_load_mid rfl 28 (.tmp 17) rfl z 1 rfl (bv h2) _ HRZ.out Try.underlying28 rfl (by rw [bv_length, HHL2.out]; exact info72) ?_
      rw [← EHC2.out]
      refine wpList_load_row rfl 28 (.tmp 3) rfl w.heap.size rfl 28 hc2 (0, 0) _ HA7.out Try.underlying28 rfl HCZ2.out ?_
      refine Great.wpList_readTo rfl _ rfl (.bool (!true)) ?h4 ?_
      case h4 =>
        have ea : ∀ (a : Act), a.tmps.getD 18 undef = .agg hc2 → a.tmps.getD 19 undef = .agg hc2 → (execOp a.eval { dst := some 20, op := .binOp .neq 28 (.tmp 18) (.tmp 19) 28, type := 4, pos := "", after := #[], guard := none }).run Try.prog w7 = .ok (.value (.bool (!true))) w7 := by
          intro a h18 h19
          have h18' : a.eval (.tmp 18) = .agg hc2 := h18
          have h19' : a.eval (.tmp 19) = .agg hc2 := h19
          simp only [execOp, h18', h19', Sem.run_bind, run_eqGuard_agg w7 _ 28 _ _ _ _ (show Try.prog.eqGuardType Try.prog.depth 28 = false by kernel_rfl), run_neq_struct, HEQ.out w7, Result.andThen_ok, Sem.run_pure]
        exact ea _ rfl rfl
      refine wpList_nil ?_
      rename_i hK
      refine hK _ _ ?_
      clear hK
      go_wp2_with fail
      go_roundg (L.length - (i + 1))
      case measure => have := HK.out; have := HLT.out; omega
      case rel => exact ⟨i + 1, HLT.out, rfl, by go_num, by rw [HT.out]; have h := HA7.out; rw [EHC2.out] at h; exact h, HB7.out⟩
    · obtain rfl : i = L.length := by omega
      go_wp2_with fail
      go_ret
      exact ⟨rfl, HB.out⟩

end Go.Proofs.Ythlbmjjodjepjaa
