/-
  The walk of the reference's Next.
-/
import Derived.Test.YthlbmjjodjepjaaRefSha
import Derived.Test.YthlbmjjodjepjaaWireU
set_option linter.unusedVariables false
set_option linter.unusedSimpArgs false
namespace Go.Proofs.Ythlbmjjodjepjaa
open Go.RowKit

set_option maxRecDepth 100000 in
set_option maxHeartbeats 4000000 in
theorem refNext_any (h : List UInt8) (s : ByteArray) (w : World) (hh : h.length = 32) (hs : s.size ≤ 1000000) :
    Calls Try.prog 53 #[.agg (bv h).toArray, .string s] w fun e w' => e = .returned (.agg (bv (nextOf h s.data.toList)).toArray) ∧ Below w.heap.size w w' := by
  obtain ⟨i8, hi8, hz8, hs8, hb8⟩ := info8i
  obtain ⟨hc, ehc⟩ : ∃ hc, hc = (bv h).toArray := ⟨_, rfl⟩
  obtain ⟨z32, hz32⟩ : ∃ z32, z32 = (bv (List.replicate 32 0)).toArray := ⟨_, rfl⟩
  rw [← ehc]
  have HI8 := Lib.hid hi8
  have HZ8 := Lib.hid hz8
  have HS8 := Lib.hid hs8
  have HB8 := Lib.hid hb8
  have HHL := Lib.hid hh
  have HSS := Lib.hid hs
  clear hi8 hz8 hs8 hb8 hh hs
  go_enter Try.func53, Try.ntmps53
  go_upto_region 0 with fail
  refine wp_region_lit ?_
  refine Great.wpList_boxTo rfl 28 (.tmp 0) rfl (some 2) rfl w.heap.size rfl hc rfl ?_
  obtain ⟨w1, hw1⟩ : ∃ w1, w1 = w.alloc (.cells hc 28) := ⟨_, rfl⟩
  rw [← hw1]
  have hs1 : w1.heap.size = w.heap.size + 1 := by rw [hw1]; simp
  have hA0 : Arr w1 w.heap.size 28 (bv h) := by rw [hw1, ehc]; exact Arr.new _ _ _
  have hB1 : Below w.heap.size w w1 := by rw [hw1]; exact (Below.refl _ _).alloc (Nat.le_refl _) _
  refine Great.wpList_allocTo rfl _ rfl (.pointer (some ⟨w.heap.size + 1, 0, none⟩)) (.cells z32 28) ?x1 ?_
  case x1 => rw [hz32, ← hs1]; kernel_rfl
  refine wpList_nil ?_
  rename_i hK
  refine hK _ _ ?_
  clear hK
  obtain ⟨w2, hw2⟩ : ∃ w2, w2 = w1.alloc (.cells z32 28) := ⟨_, rfl⟩
  rw [← hw2]
  have hA1 : Arr w2 (w.heap.size + 1) 28 (bv (List.replicate 32 0)) := by rw [hw2, hz32]; exact Arr.new_at _ _ _ _ hs1.symm
  have hA0' : Arr w2 w.heap.size 28 (bv h) := by rw [hw2]; exact hA0.alloc _
  have hB2 : Below w.heap.size w w2 := by rw [hw2]; exact hB1.alloc hB1.size _
  have hR2 : RB w2 (some ⟨w.heap.size, 0, none⟩) h := by
    refine RC.bytes (fun hp => ⟨_, rfl, fun j v hj => ?_⟩)
    rw [add_off, Nat.zero_add]
    exact hA0'.cell hj
  have HA1 := Lib.hid hA1
  have HB2 := Lib.hid hB2
  have HR2 := Lib.hid hR2
  clear hw2 hw1 hs1 hA0 hB1 hA1 hA0' hB2 hR2 hz32 ehc
  go_wp2_with (at_builtin; refine append_bytes rfl _ _ 37 rfl w2.heap.size 5 Try.underlying37 info8 _ [] rfl (World.ownsRow_lit w2 #[] 0 (Nat.le_refl _) (by simp [maxLen]) rfl) _ _ _ h rfl HHL.out (HR2.out.below ((Below.refl _ _).alloc (Nat.le_refl _) _)) ?c1 ?c2 ?_)
  case c1 => simp
  case c2 => simp
  intro v5 w5 ho5 hg5 _
  have hb5 : Below w2.heap.size w2 w5 := ((Below.refl _ _).alloc (Nat.le_refl _) _).grown hg5 (by simp) (fun k hk => by simp [Value.ownBlock] at hk; omega)
  have ho5' : w5.ownsRow w2.heap.size 5 1 v5 32 (bv h) := by simpa using ho5
  have HO5 := Lib.hid ho5'
  have HB5 := Lib.hid hb5
  clear ho5 ho5' hg5 hb5
  go_wp2_with (at_builtin; refine wpList_append_str rfl (.tmp 7) (.tmp 8) 37 9 rfl w2.heap.size 5 i8 Try.underlying37 Try.underlying9 HI8.out HZ8.out HS8.out HB8.out v5 32 (bv h) rfl HO5.out (by omega) s rfl ?c1 ?c2 ?_)
  case c1 => have := HSS.out; omega
  case c2 => exact HB5.out.size
  intro v3 w3 ho3 hg3 _
  have hb3 : Below w2.heap.size w2 w3 := HB5.out.grown hg3 HB5.out.size (fun k hk => (World.ownsRow.lt HO5.out k hk).1)
  have ho3' : w3.ownsRow w2.heap.size 5 1 v3 (32 + s.size) (bv (h ++ s.data.toList)) := by rw [bv_append, ← strCells_bv]; exact ho3
  obtain ⟨A, c, rfl, _⟩ := own_slice ho3'
  have HR3 := Lib.hid (own_RC ho3').bytes
  have HB3 := Lib.hid (below_below HB2.out HB2.out.size hb3)
  have HA3 := Lib.hid (HA1.out.below hb3 HA1.out.lt)
  clear ho3 ho3' hg3 hb3
  go_wp2_with fail
  refine (refSha_any A (32 + s.size) c (h ++ s.data.toList) w3 (by rw [List.length_append, HHL.out, data_length]) (by have := HSS.out; omega) HR3.out).mono ?_
  obtain ⟨cs, ecs⟩ : ∃ cs, cs = (bv (shaOf (h ++ s.data.toList))).toArray := ⟨_, rfl⟩
  have hz : cs.size = 32 := by rw [ecs, List.size_toArray, bv_length, shaOf_length]
  have hcz : (Try.prog.info? 28).map (·.size) = some cs.size := by rw [hz]; exact info72
  have ECS := Lib.hid ecs
  have HZZ := Lib.hid hz
  have HCZ := Lib.hid hcz
  rw [← ecs]
  clear ecs hz hcz
  rintro e w4 ⟨rfl, hb4⟩
  have HA4 := Lib.hid (HA3.out.below hb4 HA3.out.lt)
  have HB4 := Lib.hid (below_below HB3.out HB3.out.size hb4)
  clear hb4
  go_wp2_with (refine wpList_store_row rfl 28 (.tmp 4) (.tmp 10) rfl (w.heap.size + 1) cs rfl rfl 28 _ HA4.out HCZ.out (by rw [HZZ.out]; rfl) (by rw [ECS.out]; exact all_oneCell_toArray (bv_one _)) ?_)
  refine bodyPost_ret (v := .agg cs) ?_ rfl ?_
  case refine_2 => exact ⟨by rw [ECS.out]; rfl, below_setRow HB4.out _ _ (by omega)⟩
  exact results_cell_row rfl _ _ (w.heap.size + 1) 28 cs (0, 0) _ rfl (setRow_heap _ _ _ _ _ _ HA4.out) Try.underlying28 rfl HCZ.out

end Go.Proofs.Ythlbmjjodjepjaa
