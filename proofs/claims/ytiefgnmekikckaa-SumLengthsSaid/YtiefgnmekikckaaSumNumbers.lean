/-
  The walk of the law SumNumbers.
-/
import Derived.Test.YtiefgnmekikckaaSha
import Derived.Test.YtiefgnmekikckaaSumHash
import Derived.Deep.OwnRows
set_option linter.unusedVariables false
set_option linter.unusedSimpArgs false
namespace Go.Proofs.Ytiefgnmekikckaa
open Go.RowKit

theorem sha_abc : hexOf (shaOf [97, 98, 99]) = [98, 97, 55, 56, 49, 54, 98, 102, 56, 102, 48, 49, 99, 102, 101, 97, 52, 49, 52, 49, 52, 48, 100, 101, 53, 100, 97, 101, 50, 50, 50, 51, 98, 48, 48, 51, 54, 49, 97, 51, 57, 54, 49, 55, 55, 97, 57, 99, 98, 52, 49, 48, 102, 102, 54, 49, 102, 50, 48, 48, 49, 53, 97, 100] := by decide +kernel
theorem sha_nil : hexOf (shaOf []) = [101, 51, 98, 48, 99, 52, 52, 50, 57, 56, 102, 99, 49, 99, 49, 52, 57, 97, 102, 98, 102, 52, 99, 56, 57, 57, 54, 102, 98, 57, 50, 52, 50, 55, 97, 101, 52, 49, 101, 52, 54, 52, 57, 98, 57, 51, 52, 99, 97, 52, 57, 53, 57, 57, 49, 98, 55, 56, 53, 50, 98, 56, 53, 53] := by decide +kernel
theorem sha_64 : hexOf (shaOf (List.replicate 64 0)) = [102, 53, 97, 53, 102, 100, 52, 50, 100, 49, 54, 97, 50, 48, 51, 48, 50, 55, 57, 56, 101, 102, 54, 101, 100, 51, 48, 57, 57, 55, 57, 98, 52, 51, 48, 48, 51, 100, 50, 51, 50, 48, 100, 57, 102, 48, 101, 56, 101, 97, 57, 56, 51, 49, 97, 57, 50, 55, 53, 57, 102, 98, 52, 98] := by decide +kernel
theorem hash_19 : hashOf ⟨#[49, 50, 51, 52, 53, 54, 55, 56, 57]⟩ = 38 := by decide +kernel
theorem crc_nil : crcOf [] = 0 := by decide +kernel
theorem Arr.bytes {w : World} {g : Nat} {t : TypeId} {l : List UInt8} (h : Arr w g t (bv l)) : RB w (some ⟨g, 0, none⟩) l := by
  intro _
  exact ⟨_, rfl, fun j hj => by rw [add_plain]; exact h.byte hj⟩

theorem made_zeros (W : World) (m : Nat) : RB (W.alloc (.cells (madeCells #[.int .u8 0] m) 5)) (some ⟨W.heap.size, 0, none⟩) (List.replicate m 0) := by
  refine RC.bytes ?_
  have h := RC_new W (madeCells #[.int .u8 0] m) 5
  rw [toList_madeCells_one] at h
  rw [show bv (List.replicate m 0) = List.replicate m (.int .u8 0) by simp [bv, B8, un8]]
  exact h
theorem mk8_any (m : Nat) (hm : m ≤ 281474976710656) (W : World) : (Instr.makeSlice 22 (.int .i64 (m : Int)) (.int .i64 (m : Int))).run Try.prog W =
    .ok (.slice (some ⟨W.heap.size, 0, none⟩) m m) (W.alloc (.cells (madeCells #[.int .u8 0] m) 5)) :=
  run_make_row' 22 5 (.int .u8 0) 1 Try.underlying22 info8 rfl .i64 .i64 m (by omega) (by omega) W
theorem sha_size (l : List UInt8) : (Try.prog.info? 72).map (·.size) = some (bv (shaOf l)).toArray.size := by
  rw [List.size_toArray, bv_length, shaOf_length]; exact info72
theorem z32_size (l : List UInt8) : (bv (List.replicate 32 0)).toArray.size = (bv (shaOf l)).toArray.size := by
  rw [List.size_toArray, List.size_toArray, bv_length, bv_length, shaOf_length]; rfl

set_option maxRecDepth 100000 in
set_option maxHeartbeats 4000000 in
theorem sumNumbers_any (w : World) : Calls Try.prog 13 #[] w fun e w' => e = .returned (.bool true) ∧ Below w.heap.size w w' := by
  have kc := fun (w : World) (C : Array Value) (n c : Nat) => Lib.run_convert_bytes_const (P := Try.prog) w 22 5 C n c Try.underlying22 Try.underlying5
  have mk : ∀ W : World, (Instr.makeSlice 22 (.int .i64 64) (.int .i64 64)).run Try.prog W = .ok (.slice (some ⟨W.heap.size, 0, none⟩) 64 64) (W.alloc (.cells (madeCells #[.int .u8 0] 64) 5)) := fun W => mk8_any 64 (by omega) W
  go_enter Try.func13, Try.ntmps13
  go_wp2_with fail
  refine (sha_any _ 3 3 [97, 98, 99] _ rfl (by omega) (RB_newM w [97, 98, 99] 5 _)).mono ?_
  rintro e w1 ⟨rfl, hb1⟩
  have HB1 := Lib.hid (below_below ((Below.refl _ _).alloc (Nat.le_refl _) _) (by simp) hb1)
  clear hb1
  obtain ⟨c1, hc1⟩ : ∃ c1, c1 = (bv (shaOf [97, 98, 99])).toArray := ⟨_, rfl⟩
  rw [← hc1]
  have HC1 := Lib.hid hc1
  clear hc1
  go_wp2_with (refine wpList_store_row rfl 72 (.tmp 1) (.tmp 6) rfl w1.heap.size c1 rfl rfl 72 (bv (List.replicate 32 0)).toArray (heap_alloc_new w1 _) (by rw [HC1.out]; exact sha_size _) (by rw [HC1.out]; exact z32_size _) (by rw [HC1.out]; exact all_oneCell_toArray (bv_one _)) ?_)
  refine (sha_any none 0 0 [] _ rfl (by omega) (RB.nil _ _)).mono ?_
  rintro e w2 ⟨rfl, hb2⟩
  obtain ⟨W1, hW1⟩ : ∃ W1, W1 = (w1.alloc (.cells (bv (List.replicate 32 0)).toArray 72)).setRow w1.heap.size c1 := ⟨_, rfl⟩
  have hb2' : Below W1.heap.size W1 w2 := by rw [hW1]; exact hb2
  clear hb2
  have hA1 : Arr W1 w1.heap.size 72 (bv (shaOf [97, 98, 99])) := by rw [hW1, HC1.out]; exact (Arr.new w1 _ _).setRow _
  have hBW1 : Below w.heap.size w W1 := by rw [hW1]; exact below_setRow (HB1.out.alloc HB1.out.size _) _ _ HB1.out.size
  have HA1 := Lib.hid (hA1.below hb2' hA1.lt)
  have HB2 := Lib.hid (below_below hBW1 hBW1.size hb2')
  clear hA1 hb2' hBW1 hW1 HB1
  generalize w1.heap.size = q1 at *
  obtain ⟨c2, hc2⟩ : ∃ c2, c2 = (bv (shaOf [])).toArray := ⟨_, rfl⟩
  rw [← hc2]
  have HC2 := Lib.hid hc2
  clear hc2
  go_upto_region 3 with (refine wpList_store_row rfl 72 (.tmp 2) (.tmp 7) rfl w2.heap.size c2 rfl rfl 72 (bv (List.replicate 32 0)).toArray (heap_alloc_new w2 _) (by rw [HC2.out]; exact sha_size _) (by rw [HC2.out]; exact z32_size _) (by rw [HC2.out]; exact all_oneCell_toArray (bv_one _)) ?_)
  obtain ⟨W2, hW2⟩ : ∃ W2, W2 = (w2.alloc (.cells (bv (List.replicate 32 0)).toArray 72)).setRow w2.heap.size c2 := ⟨_, rfl⟩
  show Code.wp _ _ _ _ ((w2.alloc (.cells (bv (List.replicate 32 0)).toArray 72)).setRow w2.heap.size c2)
  rw [← hW2]
  have hq : q1 ≠ w2.heap.size := by have := HA1.out.lt; omega
  have hA1 : Arr W2 q1 72 (bv (shaOf [97, 98, 99])) := by rw [hW2]; exact (HA1.out.alloc _).setRow_other _ _ hq
  have hA2 : Arr W2 w2.heap.size 72 (bv (shaOf [])) := by rw [hW2, HC2.out]; exact (Arr.new w2 _ _).setRow _
  have hB : Below w.heap.size w W2 := by rw [hW2]; exact below_setRow (HB2.out.alloc HB2.out.size _) _ _ HB2.out.size
  clear HA1 HB2 hW2 hq
  have HA1 := Lib.hid hA1
  have HA2 := Lib.hid hA2
  have HB2 := Lib.hid hB
  clear hA1 hA2 hB
  generalize w2.heap.size = q2 at *
  go_wp2_with fail
  refine (sha_any _ 64 64 (List.replicate 64 0) _ rfl (by omega) (made_zeros W2 64)).mono ?_
  rintro e w3 ⟨rfl, hb3⟩
  obtain ⟨c3, hc3⟩ : ∃ c3, c3 = (bv (shaOf (List.replicate 64 0))).toArray := ⟨_, rfl⟩
  rw [← hc3]
  have HC3 := Lib.hid hc3
  have HA1' := Lib.hid ((HA1.out.alloc (.cells (madeCells #[.int .u8 0] 64) 5)).below hb3 (HA1.out.alloc _).lt)
  have HA2' := Lib.hid ((HA2.out.alloc (.cells (madeCells #[.int .u8 0] 64) 5)).below hb3 (HA2.out.alloc _).lt)
  have HB3 := Lib.hid (below_below (HB2.out.alloc HB2.out.size (.cells (madeCells #[.int .u8 0] 64) 5)) (HB2.out.alloc HB2.out.size _).size hb3)
  clear hc3 HA1 HA2 HB2 hb3
  go_upto_region 4 with (refine wpList_store_row rfl 72 (.tmp 3) (.tmp 9) rfl w3.heap.size c3 rfl rfl 72 (bv (List.replicate 32 0)).toArray (heap_alloc_new w3 _) (by rw [HC3.out]; exact sha_size _) (by rw [HC3.out]; exact z32_size _) (by rw [HC3.out]; exact all_oneCell_toArray (bv_one _)) ?_)
  obtain ⟨W3, hW3⟩ : ∃ W3, W3 = (w3.alloc (.cells (bv (List.replicate 32 0)).toArray 72)).setRow w3.heap.size c3 := ⟨_, rfl⟩
  show Code.wp _ _ _ _ ((w3.alloc (.cells (bv (List.replicate 32 0)).toArray 72)).setRow w3.heap.size c3)
  rw [← hW3]
  have hq1 : q1 ≠ w3.heap.size := by have := HA1'.out.lt; omega
  have hq2 : q2 ≠ w3.heap.size := by have := HA2'.out.lt; omega
  have hA1 : Arr W3 q1 72 (bv (shaOf [97, 98, 99])) := by rw [hW3]; exact (HA1'.out.alloc _).setRow_other _ _ hq1
  have hA2 : Arr W3 q2 72 (bv (shaOf [])) := by rw [hW3]; exact (HA2'.out.alloc _).setRow_other _ _ hq2
  have hA3 : Arr W3 w3.heap.size 72 (bv (shaOf (List.replicate 64 0))) := by rw [hW3, HC3.out]; exact (Arr.new w3 _ _).setRow _
  have hB : Below w.heap.size w W3 := by rw [hW3]; exact below_setRow (HB3.out.alloc HB3.out.size _) _ _ HB3.out.size
  clear HA1' HA2' HB3 hW3 hq1 hq2
  have HA1 := Lib.hid hA1
  have HA2 := Lib.hid hA2
  have HA3 := Lib.hid hA3
  have HB3 := Lib.hid hB
  clear hA1 hA2 hA3 hB mk
  generalize w3.heap.size = q3 at *
  go_wp2_with fail
  refine (hex_any _ 32 _ _ _ (shaOf_length _) (by omega) HA1.out.bytes).mono ?_
  rintro e w4 ⟨rfl, hb4⟩
  rw [sha_abc]
  have HA2' := Lib.hid (HA2.out.below hb4 HA2.out.lt)
  have HA3' := Lib.hid (HA3.out.below hb4 HA3.out.lt)
  have HB4 := Lib.hid (below_below HB3.out HB3.out.size hb4)
  clear hb4 HA1 HA2 HA3 HB3
  go_wp2_with fail
  refine (hex_any _ 32 _ _ _ (shaOf_length _) (by omega) HA2'.out.bytes).mono ?_
  rintro e w5 ⟨rfl, hb5⟩
  rw [sha_nil]
  have HA3 := Lib.hid (HA3'.out.below hb5 HA3'.out.lt)
  have HB5 := Lib.hid (below_below HB4.out HB4.out.size hb5)
  clear hb5 HA2' HA3' HB4
  go_wp2_with fail
  refine (hex_any _ 32 _ _ _ (shaOf_length _) (by omega) HA3.out.bytes).mono ?_
  rintro e w6 ⟨rfl, hb6⟩
  rw [sha_64]
  have HB6 := Lib.hid (below_below HB5.out HB5.out.size hb6)
  clear hb6 HA3 HB5
  go_wp2_with fail
  refine (crc_any none 0 0 [] _ rfl (by omega) (RB.nil _ _)).mono ?_
  rintro e w7 ⟨rfl, rfl⟩
  have hc0 : un32 (crcOf []) = 0 := by rw [crc_nil]; rfl
  rw [hc0]
  go_wp2_with fail
  refine (hex_any none 0 0 [] _ rfl (by omega) (RB.nil _ _)).mono ?_
  rintro e w8 ⟨rfl, hb8⟩
  have hx0 : hexOf [] = [] := rfl
  rw [hx0]
  have HB8 := Lib.hid (below_below HB6.out HB6.out.size hb8)
  clear hb8 HB6
  go_wp2_with fail
  refine (hash_any ⟨#[49, 50, 51, 52, 53, 54, 55, 56, 57]⟩ _ (by decide)).mono ?_
  rintro e w9 ⟨rfl, hb9⟩
  rw [hash_19]
  have HB9 := Lib.hid (below_below HB8.out HB8.out.size hb9)
  clear hb9 HB8
  go_wp2_with fail
  refine (known2_any _).mono ?_
  rintro e w10 ⟨rfl, hb10⟩
  have HB10 := Lib.hid (below_below HB9.out HB9.out.size hb10)
  clear hb10 HB9
  go_wp2_with fail
  go_ret
  exact ⟨rfl, HB10.out⟩

end Go.Proofs.Ytiefgnmekikckaa
