/-
  The walk of chapter 6's known runs.
-/
import Derived.Test.YthlbmjjodjepjaaWal
set_option linter.unusedVariables false
set_option linter.unusedSimpArgs false
namespace Go.Proofs.Ythlbmjjodjepjaa
open Go.RowKit

theorem k6_open : scanOf [] = ([], 0) := by decide +kernel
theorem k6_crash : crashLen (([] ++ frameOf false [97]) ++ frameOf false [98]) (([] ++ frameOf false [97] : List UInt8)).length 3 = 13 := by decide +kernel
theorem k6_torn : scanOf ((([] ++ frameOf false [97]) ++ frameOf false [98]).take 13) = ([[97]], 10) := by decide +kernel
theorem k6_both : scanOf ((frameOf false [97] ++ frameOf false [98]) ++ [7]) = ([[97], [98]], 20) := by decide +kernel

set_option maxHeartbeats 4000000 in
theorem known6_any (w : World) : Calls Try.prog 30 #[] w fun e w' => e = .returned (.bool true) ∧ Below w.heap.size w w' := by
  go_enter Try.func30, Try.ntmps30
  go_wp2_with fail
  refine (diskNew_any _).mono ?_
  rintro e w1 ⟨rfl, hd, hb⟩
  have D1 := Lib.hid hd
  have B1 := Lib.hid hb
  clear hd hb
  go_wp2_with fail
  refine (open_any _ _ _ _ [] 0 D1.out (scanOf_le _)).mono ?_
  rw [k6_open]
  rintro e w2 ⟨pl, va, vd, rfl, hL, hu, _, _, _⟩
  have hL' : LogAt w2 w.heap.size pl w.heap.size va vd [] [] 0 := hL
  have L2 := Lib.hid hL'
  have B2 := Lib.hid (D1.out.goes B1.out hu)
  clear hL hL' hu
  go_wp2_with fail
  refine (logAppend_any _ _ _ _ _ _ _ _ _ L2.out [97] (by simp) (by simp) (by simp)).mono ?_
  rintro e w3 ⟨va3, vd3, rfl, hL, hu, _, _⟩
  have L3 := Lib.hid hL
  have B3 := Lib.hid (L2.out.goes B2.out hu)
  clear hL hu
  go_wp2_with fail
  refine (logSync_any _ _ _ _ _ _ _ _ _ L3.out).mono ?_
  rintro e w4 ⟨va4, vd4, rfl, hL, hu, _, _⟩
  have L4 := Lib.hid hL
  have B4 := Lib.hid (L3.out.goes B3.out hu)
  clear hL hu
  go_wp2_with fail
  refine (logAppend_any _ _ _ _ _ _ _ _ _ L4.out [98] (by simp) (by simp [frameOf_length]) (by simp)).mono ?_
  rintro e w5 ⟨va5, vd5, rfl, hL, hu, _, _⟩
  have D5 := Lib.hid hL.disk
  have B5 := Lib.hid (L4.out.goes B4.out hu)
  clear hL hu
  go_wp2_with fail
  refine (diskCrash_any _ _ _ _ _ _ D5.out 3 (by omega) (by omega)).mono ?_
  rintro e w6 ⟨vd6, rfl, hd, hu, _⟩
  have hB6 := D5.out.goes B5.out hu
  have hd6 : DiskAt w6 w.heap.size w.heap.size vd6 ((([] ++ frameOf false [97]) ++ frameOf false [98]).take 13) 13 := by
    have h := hd
    rw [k6_crash] at h
    exact h
  have D6 := Lib.hid hd6
  have B6 := Lib.hid hB6
  clear hd hu hB6 hd6
  go_wp2_with fail
  refine (open_any _ _ _ _ _ 13 D6.out (scanOf_le _)).mono ?_
  rw [k6_torn]
  rintro e w7 ⟨pm, vm, vd7, rfl, hL, hu, _, _, _⟩
  have L7 := Lib.hid hL
  have B7 := Lib.hid (D6.out.goes B6.out hu)
  clear hL hu
  go_wp2_with fail
  refine (frame_any false (strB [97]) _ (by rw [strB_size]; simp)).mono ?_
  rw [strB_toList]
  rintro e w8 ⟨v8, rfl, ho, hb⟩
  have O8 := Lib.hid ho
  have L8 := Lib.hid (L7.out.below hb)
  have B8s := Lib.hid hb.size
  have B8 := Lib.hid (below_below B7.out B7.out.size hb)
  have S8 := Lib.hid (own_lower ho (show w.heap.size ≤ w7.heap.size from B7.out.size))
  clear ho hb
  go_wp2_with fail
  refine (frame_any false (strB [98]) _ (by rw [strB_size]; simp)).mono ?_
  rw [strB_toList]
  rintro e w9 ⟨v9, rfl, ho, hb⟩
  obtain ⟨A9, c9, rfl, _⟩ := own_slice ho
  have O9 := Lib.hid ho
  have L9 := Lib.hid (L8.out.below hb)
  have B9s := Lib.hid hb.size
  have B9 := Lib.hid (below_below B8.out B8.out.size hb)
  have S9 := Lib.hid (own_below S8.out hb)
  clear ho hb
  have hl8 : (frameOf false [97]).length = 10 := frameOf_length _ _
  have hl9 : (frameOf false [98]).length = 10 := frameOf_length _ _
  have HL8 := Lib.hid hl8
  have HL9 := Lib.hid hl9
  clear hl8 hl9
  go_wp2_with (at_builtin; refine append_bytes rfl _ _ 37 rfl w.heap.size 5 Try.underlying37 info8 v8 (frameOf false [97]) rfl S9.out _ _ _ (frameOf false [98]) rfl rfl (own_RC O9.out).bytes ?c1 ?c2 ?_)
  case c1 => rw [HL8.out, HL9.out]; omega
  case c2 => exact B9.out.size
  intro v10 w10 ho hg hat
  have S10 := Lib.hid ho
  have U10 : Upd (fun k => v8.ownBlock = some k) w9 w10 := (Upd.refl _ _).grown hg (fun k hk _ => hk)
  have hv8 : ∀ k, v8.ownBlock = some k → w7.heap.size ≤ k := fun k hk => (World.ownsRow.lt O8.out k hk).1
  have hn7 := L7.out.foot_lt
  have L10 := Lib.hid (L9.out.upd U10 (fun h => by have := hv8 _ h; have := hn7 _ (.inl rfl); omega) (fun h => by have := hv8 _ h; have := hn7 _ (.inr (.inl rfl)); omega) (fun k hk h => by have := hv8 _ h; have := hn7 k (.inr (.inr (.inl hk))); omega) (fun k hk h => by have := hv8 _ h; have := hn7 k (.inr (.inr (.inr hk))); omega))
  have B10 := Lib.hid (below_upd B9.out B9.out.size U10 (fun k hk => by have := hv8 k hk; have := B7.out.size; omega))
  have hs79 := Nat.le_trans B8s.out B9s.out
  have hv10 : ∀ k, v10.ownBlock = some k → w7.heap.size ≤ k := by
    intro k hk
    rcases hat with h | h
    · exact hv8 k (h ▸ hk)
    · rw [h] at hk; cases hk; exact hs79
  have HV10 := Lib.hid hv10
  have N7 := Lib.hid hn7
  clear ho hg hat U10 hv8 hv10 hs79 hn7
  go_wp2_with (at_builtin; refine append_bytes rfl _ _ 37 rfl w.heap.size 5 Try.underlying37 info8 v10 (frameOf false [97] ++ frameOf false [98]) rfl (by rw [List.length_append]; exact S10.out.alloc _) _ 1 _ [7] rfl rfl (RB_new w10 [7] 5) ?c3 ?c4 ?_)
  case c3 => rw [List.length_append, HL8.out, HL9.out]; omega
  case c4 => have := B10.out.size; simp; omega
  intro v11 w11 ho hg _
  have ho1 : w11.ownsRow w.heap.size 5 1 v11 21 (bv ((frameOf false [97] ++ frameOf false [98]) ++ [7])) := by
    rw [List.append_assoc]
    rw [HL8.out, HL9.out] at ho
    exact ho
  obtain ⟨A11, c11, rfl, hc11⟩ := own_slice ho1
  have U11 : Upd (fun k => v10.ownBlock = some k) w10 w11 := ((Upd.refl _ w10).alloc _).grown hg (fun k hk _ => hk)
  have hv := HV10.out
  have hn7 := N7.out
  have L11 := Lib.hid (L10.out.upd U11 (fun h => by have := hv _ h; have := hn7 _ (.inl rfl); omega) (fun h => by have := hv _ h; have := hn7 _ (.inr (.inl rfl)); omega) (fun k hk h => by have := hv _ h; have := hn7 k (.inr (.inr (.inl hk))); omega) (fun k hk h => by have := hv _ h; have := hn7 k (.inr (.inr (.inr hk))); omega))
  have B11 := Lib.hid (below_upd B10.out B10.out.size U11 (fun k hk => by have := hv k hk; have := B7.out.size; omega))
  have O11 := Lib.hid ho1
  clear ho ho1 hg U11 hv hn7
  go_wp2_with fail
  refine (scan_any A11 21 c11 ((frameOf false [97] ++ frameOf false [98]) ++ [7]) w11 (by simp [frameOf_length]) (by omega) hc11 (own_RC O11.out).bytes).mono ?_
  rw [k6_both]
  rintro e w12 ⟨v12, rfl, ho, hb⟩
  obtain ⟨A12, c12, rfl, _⟩ := own_slice ho
  have O12 := Lib.hid ho
  have L12 := Lib.hid (L11.out.below hb)
  have B12 := Lib.hid (below_below B11.out B11.out.size hb)
  clear ho hb
  go_wp2_with fail
  refine (logAll_any _ _ _ _ _ _ _ _ _ L12.out (by simp)).mono ?_
  rintro e w13 ⟨v13, rfl, ho, hb⟩
  obtain ⟨A13, c13, rfl, _⟩ := own_slice ho
  have O12' := Lib.hid (own_below O12.out hb)
  have O13 := Lib.hid ho
  have B13 := Lib.hid (below_below B12.out B12.out.size hb)
  clear ho hb O12
  go_wp2_with fail
  refine (texts_any _ _ _ _ _ _ [[97]] [[97]] _ rfl rfl (by simp) (by simp) (RC.below (own_RC O13.out) ((Below.refl _ _).alloc (Nat.le_refl _) _)) (RC_newL w13 (sv [[97]]) 9)).mono ?_
  rintro e w14 ⟨rfl, hb⟩
  have hb2 := ((Below.refl w13.heap.size w13).alloc (Nat.le_refl _) (.cells (sv [[97]]).toArray 9)).trans (hb.mono (by simp))
  have B14 := Lib.hid (below_below B13.out B13.out.size hb2)
  have O14 := Lib.hid (own_below O12'.out hb2)
  clear hb hb2
  go_wp2_with fail
  refine (texts_any _ _ _ _ _ _ [[97], [98]] [[97], [98]] _ rfl rfl (by simp) (by simp) (RC.below (own_RC O14.out) ((Below.refl _ _).alloc (Nat.le_refl _) _)) (RC_newL w14 (sv [[97], [98]]) 9)).mono ?_
  rintro e w15 ⟨rfl, hb⟩
  have hb2 := ((Below.refl w14.heap.size w14).alloc (Nat.le_refl _) (.cells (sv [[97], [98]]).toArray 9)).trans (hb.mono (by simp))
  have B15 := Lib.hid (below_below B14.out B14.out.size hb2)
  clear hb hb2
  go_wp2_with fail
  go_ret
  exact ⟨rfl, B15.out⟩

end Go.Proofs.Ythlbmjjodjepjaa
