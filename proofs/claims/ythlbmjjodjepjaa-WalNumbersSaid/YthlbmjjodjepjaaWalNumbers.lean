/-
  The walk of the law WalNumbers.
-/
import Derived.Test.YthlbmjjodjepjaaKnown6
import Derived.Deep.OwnRows
set_option linter.unusedVariables false
set_option linter.unusedSimpArgs false
namespace Go.Proofs.Ythlbmjjodjepjaa
open Go.RowKit

/-- A row of noughts that make has laid reads as noughts. -/
theorem made_RB (W : World) (m : Nat) : RB (W.alloc (.cells (madeCells #[.int .u8 0] m) 5)) (some ⟨W.heap.size, 0, none⟩) (List.replicate m 0) := by
  refine RC.bytes ?_
  have h := RC_new W (madeCells #[.int .u8 0] m) 5
  rw [toList_madeCells_one] at h
  rw [show bv (List.replicate m 0) = List.replicate m (.int .u8 0) by simp [bv, B8, un8]]
  exact h
theorem make8 (m : Nat) (hm : m ≤ 281474976710656) (W : World) : (Instr.makeSlice 37 (.int .i64 (m : Int)) (.int .i64 (m : Int))).run Try.prog W =
    .ok (.slice (some ⟨W.heap.size, 0, none⟩) m m) (W.alloc (.cells (madeCells #[.int .u8 0] m) 5)) :=
  run_make_row' 37 5 (.int .u8 0) 1 Try.underlying37 info8 rfl .i64 .i64 m (by omega) (by omega) W

set_option maxHeartbeats 1000000 in
/-- Open of nothing. -/
theorem open_nil (w : World) : Calls Try.prog 34 #[.pointer none] w fun e w' => e = .returned (.tuple #[.pointer none, .int .i64 1]) ∧ w = w' := by
  go_enter Try.func34, Try.ntmps34
  go_wp2
  go_ret2
  exact ⟨rfl, rfl⟩

set_option maxHeartbeats 1000000 in
theorem put_long (w : World) (v : Value) (first : Bool) (s : ByteArray) (hs : 4000 < s.size) :
    Calls Try.prog 63 #[v, .bool first, .string s] w fun e w' => e = .returned (.int .i64 3) ∧ w = w' := by
  have h1 : (4000 : Int) < (s.size : Int) := by omega
  clear hs
  go_enter Try.func63, Try.ntmps63
  go_wp2
  go_ret
  exact ⟨rfl, rfl⟩
set_option maxHeartbeats 1000000 in
theorem logAppend_long (w : World) (v : Value) (s : ByteArray) (hs : 4000 < s.size) :
    Calls Try.prog 35 #[v, .string s] w fun e w' => e = .returned (.int .i64 3) ∧ w = w' := by
  go_enter Try.func35, Try.ntmps35
  go_wp2_with fail
  refine (put_long _ v false s hs).mono ?_
  rintro e w1 ⟨rfl, rfl⟩
  go_wp2_with fail
  go_ret
  exact ⟨rfl, rfl⟩
set_option maxHeartbeats 1000000 in
theorem logReset_long (w : World) (v : Value) (s : ByteArray) (hs : 4000 < s.size) :
    Calls Try.prog 38 #[v, .string s] w fun e w' => e = .returned (.int .i64 3) ∧ w = w' := by
  go_enter Try.func38, Try.ntmps38
  go_wp2_with fail
  refine (put_long _ v true s hs).mono ?_
  rintro e w1 ⟨rfl, rfl⟩
  go_wp2_with fail
  go_ret
  exact ⟨rfl, rfl⟩

def k9b : List UInt8 := (frameOf false [111, 108, 100] ++ frameOf true [120]) ++ frameOf false []
theorem k9_scan : scanOf (k9b ++ [1, 2, 3]) = ([[120], []], 31) := by decide +kernel
theorem k9_len : k9b.length = 31 := by decide +kernel

set_option maxRecDepth 100000 in
set_option maxHeartbeats 8000000 in
theorem walNumbers_any (w : World) : Calls Try.prog 10 #[] w fun e w' => e = .returned (.bool true) ∧ Below w.heap.size w w' := by
  obtain ⟨z, ez⟩ : ∃ z, z = strB (List.replicate 4001 0) := ⟨_, rfl⟩
  have HZ := Lib.hid (show 4000 < z.size by rw [ez, strB_size, List.length_replicate]; omega)
  have mk1 : ∀ W : World, (Instr.makeSlice 37 (.int .i64 4001) (.int .i64 4001)).run Try.prog W = .ok (.slice (some ⟨W.heap.size, 0, none⟩) 4001 4001) (W.alloc (.cells (madeCells #[.int .u8 0] 4001) 5)) := fun W => make8 4001 (by omega) W
  have kst : ∀ W : World, (convert 37 9 (.slice (some ⟨W.heap.size, 0, none⟩) 4001 4001)).run Try.prog (W.alloc (.cells (madeCells #[.int .u8 0] 4001) 5)) = .ok (.string z) (W.alloc (.cells (madeCells #[.int .u8 0] 4001) 5)) := fun W => by
    rw [ez]
    exact run_string_RB (P := Try.prog) _ 37 9 5 Try.underlying37 Try.underlying5 Try.underlying9 _ 4001 4001 _ List.length_replicate (made_RB W 4001)
  clear ez
  go_enter Try.func10, Try.ntmps10
  go_wp2_with fail
  refine (open_nil _).mono ?_
  rintro e w1 ⟨rfl, rfl⟩
  go_wp2_with fail
  refine (diskNew_any _).mono ?_
  rintro e w1 ⟨rfl, hd, hb⟩
  have D1 := Lib.hid hd
  have B1 := Lib.hid hb
  clear hd hb
  go_wp2_with fail
  refine (open_any _ _ _ _ [] 0 D1.out (scanOf_le _)).mono ?_
  rw [k6_open]
  rintro e w2 ⟨pl, va, vd, rfl, hL, hu, _, _, _⟩
  have hL' : LogAt w2 w.heap.size pl w.heap.size va vd [] [] 0 := hL
  have L2 := Lib.hid hL'
  have B2 := Lib.hid (D1.out.goes B1.out hu)
  clear hL hL' hu
  go_wp2_with fail
  refine (logAppend_long _ _ z HZ.out).mono ?_
  rintro e w3 ⟨rfl, rfl⟩
  have L3 := Lib.hid (L2.out.below ((Below.refl w2.heap.size w2).alloc (Nat.le_refl _) (.cells (madeCells #[.int .u8 0] 4001) 5)))
  have B3 := Lib.hid (B2.out.alloc B2.out.size (.cells (madeCells #[.int .u8 0] 4001) 5))
  generalize w2.alloc (.cells (madeCells #[.int .u8 0] 4001) 5) = w3 at *
  go_wp2_with fail
  refine (logReset_long _ _ z HZ.out).mono ?_
  rintro e w4 ⟨rfl, rfl⟩
  have L4 := Lib.hid (L3.out.below ((Below.refl w3.heap.size w3).alloc (Nat.le_refl _) (.cells (madeCells #[.int .u8 0] 4001) 5)))
  have B4 := Lib.hid (B3.out.alloc B3.out.size (.cells (madeCells #[.int .u8 0] 4001) 5))
  generalize w3.alloc (.cells (madeCells #[.int .u8 0] 4001) 5) = w4 at *
  clear kst mk1
  go_wp2_with fail
  refine (logAppend_any _ _ _ _ _ _ _ _ _ L4.out [111, 108, 100] (by simp) (by simp) (by simp)).mono ?_
  rintro e w5 ⟨va5, vd5, rfl, hL, hu, _, _⟩
  have L5 := Lib.hid (show LogAt w5 w.heap.size pl w.heap.size va5 vd5 [[111, 108, 100]] (frameOf false [111, 108, 100]) 0 from hL)
  have B5 := Lib.hid (L4.out.goes B4.out hu)
  clear hL hu
  go_wp2_with fail
  refine (logReset_any _ _ _ _ _ _ _ _ _ L5.out [120] (by simp) (by simp [frameOf_length])).mono ?_
  rintro e w6 ⟨va6, vd6, rfl, hL, hu, _, _⟩
  have L6 := Lib.hid hL
  have B6 := Lib.hid (L5.out.goes B5.out hu)
  clear hL hu
  go_wp2_with fail
  refine (logAppend_any _ _ _ _ _ _ _ _ _ L6.out [] (by simp) (by simp [frameOf_length]) (by simp)).mono ?_
  rintro e w7 ⟨va7, vd7, rfl, hL, hu, _, _⟩
  have L7 := Lib.hid (show LogAt w7 w.heap.size pl w.heap.size va7 vd7 [[120], []] k9b 0 from hL)
  have B7 := Lib.hid (L6.out.goes B6.out hu)
  clear hL hu
  go_wp2_with fail
  refine (logLen_any _ _ _ _ _ _ _ _ _ L7.out).mono ?_
  rintro e w8 ⟨rfl, rfl⟩
  go_wp2_with fail
  refine (logSync_any _ _ _ _ _ _ _ _ _ L7.out).mono ?_
  rintro e w8 ⟨va8, vd8, rfl, hL, hu, _, _⟩
  have D8 := Lib.hid hL.disk
  have B8 := Lib.hid (L7.out.goes B7.out hu)
  clear hL hu
  go_wp2_with fail
  refine (diskAppend_any _ _ _ _ _ _ (D8.out.below ((Below.refl w8.heap.size w8).alloc (Nat.le_refl _) _)) _ 3 _ [1, 2, 3] rfl (RB_new w8 [1, 2, 3] 5) (by rw [k9_len]; simp)).mono ?_
  rintro e w9 ⟨v9, rfl, hd, hu, _⟩
  have D9 := Lib.hid hd
  have B9 := Lib.hid ((D8.out.below ((Below.refl w8.heap.size w8).alloc (Nat.le_refl _) _)).goes (B8.out.alloc B8.out.size _) hu)
  clear hd hu
  go_wp2_with fail
  refine (open_any _ _ _ _ _ _ D9.out (scanOf_le _)).mono ?_
  rw [k9_scan]
  rintro e w10 ⟨pm, vm, vd10, rfl, hL, hu, _, _, _⟩
  have L10 := Lib.hid hL
  have B10 := Lib.hid (D9.out.goes B9.out hu)
  clear hL hu
  go_wp2_with fail
  refine (logAll_any _ _ _ _ _ _ _ _ _ L10.out (by simp)).mono ?_
  rintro e w11 ⟨v11, rfl, ho, hb⟩
  obtain ⟨A11, c11, rfl, _⟩ := own_slice ho
  have O11 := Lib.hid ho
  have L11 := Lib.hid (L10.out.below hb)
  have B11 := Lib.hid (below_below B10.out B10.out.size hb)
  clear ho hb
  go_wp2_with fail
  refine (texts_any _ _ _ _ _ _ [[120], []] [[120], []] _ rfl rfl (by simp) (by simp) (RC.below (own_RC O11.out) ((Below.refl _ _).alloc (Nat.le_refl _) _)) (RC_newL w11 (sv [[120], []]) 9)).mono ?_
  rintro e w12 ⟨rfl, hb⟩
  have hb2 := ((Below.refl w11.heap.size w11).alloc (Nat.le_refl _) (.cells (sv [[120], []]).toArray 9)).trans (hb.mono (by simp))
  have B12 := Lib.hid (below_below B11.out B11.out.size hb2)
  have L12 := Lib.hid (L11.out.below hb2)
  clear hb hb2
  go_wp2_with fail
  refine (diskBytes_any _ _ _ _ _ _ L12.out.disk).mono ?_
  have hl31 : ((k9b ++ [1, 2, 3]).take 31).length = 31 := by decide +kernel
  rw [hl31]
  rintro e w13 ⟨x, rfl, ho, hb⟩
  obtain ⟨A13, c13, rfl, _⟩ := own_slice ho
  have B13 := Lib.hid (below_below B12.out B12.out.size hb)
  clear ho hb
  go_wp2_with fail
  refine (known6_any _).mono ?_
  rintro e w14 ⟨rfl, hb⟩
  have B14 := Lib.hid (below_below B13.out B13.out.size hb)
  clear hb
  go_wp2_with fail
  go_ret
  exact ⟨rfl, B14.out⟩

end Go.Proofs.Ythlbmjjodjepjaa
