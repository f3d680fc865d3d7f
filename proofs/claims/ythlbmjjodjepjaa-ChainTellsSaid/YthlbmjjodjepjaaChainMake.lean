/-
  The walk of Make, of the chain.
-/
import Derived.Test.YthlbmjjodjepjaaChainEq
import Derived.Great.BuildSlice
set_option linter.unusedVariables false
set_option linter.unusedSimpArgs false
namespace Go.Proofs.Ythlbmjjodjepjaa
open Go.RowKit

theorem infoLk : (Try.prog.info? 30).map (fun i => (i.zero, i.size, i.bytes)) = some (some (.agg (lk ([], hd0)).toArray), 33, 48) := by kernel_rfl
theorem info33 : (Try.prog.info? 30).map (·.size) = some 33 := by kernel_rfl
theorem built_link (s h : List UInt8) (hh : h.length = 32) : Try.prog.built 30 [(0, .string (strB s)), (1, .agg (bv h).toArray)] = some (lk (s, h)).toArray := by
  rw [← range_bt h hh]
  unfold lk
  simp only []
  generalize strB s = q
  generalize bt h = f
  kernel_rfl
theorem built_one (s h : List UInt8) (hh : h.length = 32) : Try.prog.builtSlice 30 1 [(0, .agg (lk (s, h)).toArray)] = some (lk (s, h)).toArray := by
  rw [← range_bt h hh]
  unfold lk
  simp only []
  generalize strB s = q
  generalize bt h = f
  kernel_rfl

set_option maxRecDepth 100000 in
set_option maxHeartbeats 8000000 in
theorem make_any (A : Option Addr) (n c : Nat) (L : List (List UInt8)) (w : World) (hl : L.length = n) (hn : n ≤ 100000) (hs : ∀ x ∈ L, x.length ≤ 1000000) (hr : RS w A L) :
    Calls Try.prog 18 #[.slice A n c] w fun e w' => ∃ v, e = .returned v ∧ w'.ownsRow w.heap.size 30 33 v L.length (lv (mkOf L)) ∧ Below w.heap.size w w' := by
  subst hl
  have HL := Lib.hid hr
  have HSM := Lib.hid hs
  have HN := Lib.hid hn
  clear hr hs
  go_enter Try.func18, Try.ntmps18
  obtain ⟨z32, hz32⟩ : ∃ z32, z32 = (bv (List.replicate 32 0)).toArray := ⟨_, rfl⟩
  go_upto_region 2 with fail
  refine wp_region_lit ?_
  refine Great.wpList_allocTo rfl _ rfl (.pointer (some ⟨w.heap.size, 0, none⟩)) (.cells z32 28) ?x1 ?_
  case x1 => rw [hz32]; kernel_rfl
  refine wpList_nil ?_
  rename_i hK
  refine hK _ _ ?_
  clear hK
  obtain ⟨w1, hw1⟩ : ∃ w1, w1 = w.alloc (.cells z32 28) := ⟨_, rfl⟩
  rw [← hw1]
  have HA1 := Lib.hid (show Arr w1 w.heap.size 28 (bv (headOf [])) by rw [hw1, hz32]; exact Arr.new _ _ _)
  have HB1 := Lib.hid (show Below w.heap.size w w1 by rw [hw1]; exact (Below.refl _ _).alloc (Nat.le_refl _) _)
  have HS1 := Lib.hid (show w1.heap.size = w.heap.size + 1 by rw [hw1]; simp)
  clear hw1 hz32
  go_wp2_with fail
  go_loopg [3, 9] L.length (fun k s3 s9 wr => ∃ i : Nat, i ≤ L.length ∧ k = L.length - i ∧ s9 = .int .i64 (i : Int) ∧ wr.ownsRow (w.heap.size + 1) 30 33 s3 i (lv (mkOf (L.take i))) ∧ Arr wr w.heap.size 28 (bv (headOf (L.take i))) ∧ Below w.heap.size w wr)
  case atStart => exact ⟨0, Nat.zero_le _, by omega, rfl, World.ownsRow_nil _ _ _ _, HA1.out, HB1.out⟩
  case round =>
    obtain ⟨i, hi, hk, rfl, ho, ha, hb⟩ := hrel
    have HK := Lib.hid hk
    have HO := Lib.hid ho
    have HA := Lib.hid ha
    have HB := Lib.hid hb
    clear hk ho ha hb HA1 HB1
    by_cases hlt : i < L.length
    · obtain ⟨bl, ol, rfl, e1⟩ := HL.out.parts (by rw [sv_length]; omega)
      have k1 := cell_below HB.out (e1 i _ (sv_get' L i hlt))
      have hxs : (L[i]).length ≤ 1000000 := HSM.out _ (List.getElem_mem hlt)
      have HT := Lib.hid (List.take_succ_eq_append_getElem hlt)
      generalize L[i] = x at *
      generalize L.take i = T at *
      have HXS := Lib.hid (show (strB x).size ≤ 1000000 by rw [strB_size]; exact hxs)
      clear e1 hxs
      obtain ⟨hd, ehd⟩ : ∃ hd, hd = headOf T := ⟨_, rfl⟩
      have hhl : hd.length = 32 := by rw [ehd]; exact headOf_length T
      rw [← ehd] at HA
      obtain ⟨hc, ehc⟩ : ∃ hc, hc = (bv hd).toArray := ⟨_, rfl⟩
      have hcs : hc.size = 32 := by rw [ehc, List.size_toArray, bv_length, hhl]
      have hcz : (Try.prog.info? 28).map (·.size) = some hc.size := by rw [hcs]; exact info72
      have HAc := Lib.hid (show wr.heap[w.heap.size]? = some (.cells hc 28) by rw [ehc]; exact HA.out)
      have EHD := Lib.hid ehd
      have HHL := Lib.hid hhl
      have EHC := Lib.hid ehc
      have HCS := Lib.hid hcs
      have HCZ := Lib.hid hcz
      clear ehd hhl ehc hcs hcz
      go_upto_region 6 with fail
      refine wp_region_lit ?_
      refine wpList_load_row rfl 28 (.tmp 4) rfl w.heap.size rfl 28 hc (0, 0) _ HAc.out Try.underlying28 rfl HCZ.out ?_
      go_wp2_with fail
      rw [EHC.out]
      refine (next_any hd (strB x) wr HHL.out HXS.out).mono ?_
      rw [strB_toList]
      obtain ⟨h2, eh2⟩ : ∃ h2, h2 = nextOf hd x := ⟨_, rfl⟩
      rw [← eh2]
      have hhl2 : h2.length = 32 := by rw [eh2]; exact nextOf_length _ _
      obtain ⟨hc2, ehc2⟩ : ∃ hc2, hc2 = (bv h2).toArray := ⟨_, rfl⟩
      rw [← ehc2]
      have hcs2 : hc2.size = 32 := by rw [ehc2, List.size_toArray, bv_length, hhl2]
      have hcz2 : (Try.prog.info? 28).map (·.size) = some hc2.size := by rw [hcs2]; exact info72
      have hone2 : hc2.all (·.oneCell') = true := by rw [ehc2]; exact all_oneCell_toArray (bv_one _)
      rintro e w4 ⟨rfl, hb4⟩
      have HA4 := Lib.hid (show w4.heap[w.heap.size]? = some (.cells hc 28) from (hb4.block w.heap.size (Arr.lt HA.out)).trans HAc.out)
      have HB4 := Lib.hid (below_below HB.out HB.out.size hb4)
      have HO4 := Lib.hid (own_below HO.out hb4)
      have EH2 := Lib.hid eh2
      have HHL2 := Lib.hid hhl2
      have EHC2 := Lib.hid ehc2
      have HCS2 := Lib.hid hcs2
      have HCZ2 := Lib.hid hcz2
      have HONE2 := Lib.hid hone2
      clear hb4 eh2 hhl2 ehc2 hcs2 hcz2 hone2
      go_upto_region 7 with (refine wpList_store_row rfl 28 (.tmp 4) (.tmp 15) rfl w.heap.size hc2 rfl rfl 28 hc HA4.out HCZ2.out (by rw [HCS.out, HCS2.out]) HONE2.out ?_)
      obtain ⟨w5, hw5⟩ : ∃ w5, w5 = w4.setRow w.heap.size hc2 := ⟨_, rfl⟩
      rw [← hw5]
      have HA5 := Lib.hid (show w5.heap[w.heap.size]? = some (.cells hc2 28) by rw [hw5]; exact setRow_heap _ _ _ _ _ _ HA4.out)
      have HB5 := Lib.hid (show Below w.heap.size w w5 by rw [hw5]; exact below_setRow HB4.out _ _ (Nat.le_refl _))
      have HO5 := Lib.hid (show w5.ownsRow (w.heap.size + 1) 30 33 u3 i (lv (mkOf T)) by
        rw [hw5]
        exact own_upd HO4.out (upd_setRow (F := fun k => k = w.heap.size) (Upd.refl _ _) _ _ (fun _ => rfl)) (fun k hk h => by have := (World.ownsRow.lt HO4.out k hk).1; omega))
      have HS5 := Lib.hid (show w.heap.size + 1 ≤ w5.heap.size by have := (Array.getElem?_eq_some_iff.1 HA5.out).1; omega)
      obtain ⟨lc, elc⟩ : ∃ lc, lc = (lk (x, h2)).toArray := ⟨_, rfl⟩
      have HF := Lib.hid (show Try.prog.built 30 [(0, .string (strB x)), (1, .agg hc2)] = some lc by rw [elc, EHC2.out]; exact built_link x h2 HHL2.out)
      have HF1 := Lib.hid (show Try.prog.builtSlice 30 1 [(0, .agg lc)] = some lc by rw [elc]; exact built_one x h2 HHL2.out)
      have ELC := Lib.hid elc
      clear hw5 elc HA4 HB4 HO4
      refine wp_region_lit ?_
      refine Great.wpList_readTo rfl _ rfl u3 rfl ?_
      refine Great.wpList_readTo rfl _ rfl (.string (strB x)) rfl ?_
      refine wpList_load_row rfl 28 (.tmp 4) rfl w.heap.size rfl 28 hc2 (0, 0) _ HA5.out Try.underlying28 rfl HCZ2.out ?_
      refine wpList_buildTo rfl 30 _ rfl (some 19) rfl lc (by simp only [List.map_toArray, List.map_cons, List.map_nil]; exact HF.out) ?_
      refine Great.wpList_buildSliceTo rfl 26 30 1 _ rfl w5.heap.size rfl (some 20) rfl Try.underlying26 lc (by simp only [List.map_toArray, List.map_cons, List.map_nil]; exact HF1.out) ?_
      refine append_any rfl (.tmp 16) (.tmp 20) 26 rfl (w.heap.size + 1) 30 (.agg (lk ([], hd0)).toArray) 33 48 Try.underlying26 infoLk (by kernel_rfl) (by omega) (by omega) u3 i (lv (mkOf T)) rfl (HO5.out.alloc _) (some ⟨w5.heap.size, 0, none⟩) 1 1 (lk (x, h2)) rfl ?c1 ?c2 (lk_one _) ?c3 ?c4 ?_
      case c1 => rw [lk_length _ HHL2.out]
      case c2 => rw [ELC.out]; exact RC_newL w5 (lk (x, h2)) _
      case c3 => have := HN.out; omega
      case c4 => have := HS5.out; simp; omega
      intro v6 w6 ho6 hg6 hat6
      have HO6 := Lib.hid (show w6.ownsRow (w.heap.size + 1) 30 33 v6 (i + 1) (lv (mkOf (T ++ [x]))) by
        rw [mkOf_snoc, lv_snoc, ← EHD.out, ← EH2.out]; exact ho6)
      have hub : Upd (fun k => u3.ownBlock = some k) w5 w6 := ((Upd.refl _ w5).alloc _).grown hg6 (fun k hk _ => hk)
      have HA6 := Lib.hid (show Arr w6 w.heap.size 28 (bv (headOf (T ++ [x]))) by
        rw [headOf_snoc, ← EHD.out, ← EH2.out]
        exact Arr.upd (show Arr w5 w.heap.size 28 (bv h2) by have h := HA5.out; rw [EHC2.out] at h; exact h) hub (fun h => by have := (World.ownsRow.lt HO5.out _ h).1; omega))
      have HB6 := Lib.hid (below_upd HB5.out HB5.out.size hub (fun k hk => by have := (World.ownsRow.lt HO5.out k hk).1; omega))
      clear ho6 hg6 hat6 hub
      go_wp2_with fail
      go_roundg (L.length - (i + 1))
      case measure => have := HK.out; omega
      case rel => exact ⟨i + 1, by omega, rfl, by go_num, by rw [HT.out]; exact HO6.out, by rw [HT.out]; exact HA6.out, HB6.out⟩
    · obtain rfl : i = L.length := by omega
      rw [List.take_length] at HO HA
      go_wp2_with fail
      go_ret
      exact ⟨_, rfl, own_lower HO.out (by omega), HB.out⟩

end Go.Proofs.Ythlbmjjodjepjaa
