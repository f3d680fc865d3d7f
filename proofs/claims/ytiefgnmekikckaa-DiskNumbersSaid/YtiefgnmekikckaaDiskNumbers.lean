/-
  The walk of the law DiskNumbers.
-/
import Derived.Test.YtiefgnmekikckaaKnown4
import Derived.Deep.OwnRows
set_option linter.unusedVariables false
set_option linter.unusedSimpArgs false
namespace Go.Proofs.Ytiefgnmekikckaa
open Go.RowKit

/-- A row of noughts that make has laid reads as some list of that length. -/
theorem made_RB (W : World) (m : Nat) : ∃ z : List UInt8, z.length = m ∧ RB (W.alloc (.cells (madeCells #[.int .u8 0] m) 5)) (some ⟨W.heap.size, 0, none⟩) z := by
  refine ⟨List.replicate m 0, by simp, RC.bytes ?_⟩
  have h := RC_new W (madeCells #[.int .u8 0] m) 5
  rw [toList_madeCells_one] at h
  rw [show bv (List.replicate m 0) = List.replicate m (.int .u8 0) by simp [bv, B8, un8]]
  exact h

theorem make8 (m : Nat) (hm : m ≤ 281474976710656) (W : World) : (Instr.makeSlice 22 (.int .i64 (m : Int)) (.int .i64 (m : Int))).run Try.prog W =
    .ok (.slice (some ⟨W.heap.size, 0, none⟩) m m) (W.alloc (.cells (madeCells #[.int .u8 0] m) 5)) :=
  run_make_row' 22 5 (.int .u8 0) 1 Try.underlying22 info8 rfl .i64 .i64 m (by omega) (by omega) W

theorem cut_no9 (w : World) (B p : Nat) (v : Value) (b : List UInt8) (safe : Nat) (h : DiskAt w B p v b safe) (n : Int) (hn : n < 0 ∨ (b.length : Int) < n) : Calls Try.prog 27 #[.pointer (some ⟨p, 0, none⟩), .int .i64 n] w fun e w' => e = .returned (.int .i64 1) ∧ w = w' := diskCut_no w B p v b safe h n hn

set_option maxRecDepth 10000 in
set_option maxHeartbeats 4000000 in
theorem diskNumbers_any (w : World) : Calls Try.prog 7 #[] w fun e w' => e = .returned (.bool true) ∧ Below w.heap.size w w' := by
  have kc := fun (w : World) (C : Array Value) (n c : Nat) => Lib.run_convert_bytes_const (P := Try.prog) w 22 5 C n c Try.underlying22 Try.underlying5
  have mk1 : ∀ W : World, (Instr.makeSlice 22 (.int .i64 4194303) (.int .i64 4194303)).run Try.prog W = .ok (.slice (some ⟨W.heap.size, 0, none⟩) 4194303 4194303) (W.alloc (.cells (madeCells #[.int .u8 0] 4194303) 5)) := fun W => make8 4194303 (by omega) W
  have mk2 : ∀ W : World, (Instr.makeSlice 22 (.int .i64 4194302) (.int .i64 4194302)).run Try.prog W = .ok (.slice (some ⟨W.heap.size, 0, none⟩) 4194302 4194302) (W.alloc (.cells (madeCells #[.int .u8 0] 4194302) 5)) := fun W => make8 4194302 (by omega) W
  go_enter Try.func7, Try.ntmps7
  go_wp2_with fail
  refine (diskNew_any _).mono ?_
  rintro e w1 ⟨rfl, hd, hb⟩
  have D1 := Lib.hid hd
  have B1 := Lib.hid hb
  clear hd hb
  go_wp2_with fail
  refine (diskCrash_any _ w.heap.size w.heap.size _ _ _ D1.out 5 (by omega) (by omega)).mono ?_
  rintro e w2 ⟨v2, rfl, hd, hu, _⟩
  have D2 := Lib.hid (show DiskAt w2 w.heap.size w.heap.size v2 [] 0 from hd)
  have B2 := Lib.hid (D1.out.goes B1.out hu)
  clear hd hu
  go_wp2_with fail
  refine (diskAppend_any _ w.heap.size w.heap.size _ _ _ (D2.out.below ((Below.refl _ _).alloc (Nat.le_refl _) _)) _ 3 _ [97, 98, 99] rfl ?hr1 (by simp)).mono ?_
  case hr1 => exact RB_at w2 [97, 98, 99] 5 _ _ rfl
  rintro e w3 ⟨v3, rfl, hd, hu, _⟩
  have D3 := Lib.hid (show DiskAt w3 w.heap.size w.heap.size v3 [97, 98, 99] 0 from hd)
  have B3 := Lib.hid ((D2.out.below ((Below.refl _ _).alloc (Nat.le_refl _) _)).goes (B2.out.alloc B2.out.size _) hu)
  clear hd hu
  go_wp2_with fail
  refine (diskCut_no _ w.heap.size w.heap.size _ _ _ D3.out 9 (by simp)).mono ?_
  rintro e w4 ⟨rfl, rfl⟩
  go_wp2_with fail
  refine (diskCut_no _ w.heap.size w.heap.size _ _ _ D3.out (-1) (by simp)).mono ?_
  rintro e w4 ⟨rfl, rfl⟩
  go_wp2_with fail
  refine (diskSync_any _ w.heap.size w.heap.size _ _ 0 D3.out).mono ?_
  rintro e w5 ⟨v5, rfl, hd, hu, _⟩
  have D5 := Lib.hid (show DiskAt w5 w.heap.size w.heap.size v5 [97, 98, 99] 3 from hd)
  have B5 := Lib.hid (D3.out.goes B3.out hu)
  clear hd hu
  go_wp2_with fail
  refine (diskCut_any _ w.heap.size w.heap.size _ _ _ D5.out 2 (by simp)).mono ?_
  rintro e w6 ⟨v6, rfl, hd, hu, _⟩
  have D6 := Lib.hid (show DiskAt w6 w.heap.size w.heap.size v6 [97, 98] 2 from hd)
  have B6 := Lib.hid (D5.out.goes B5.out hu)
  clear hd hu
  go_wp2_with fail
  refine (diskSafe_any _ w.heap.size w.heap.size _ _ _ D6.out).mono ?_
  rintro e w7 ⟨rfl, rfl⟩
  go_wp2_with fail
  refine (diskAppend_full _ w.heap.size w.heap.size _ _ _ (D6.out.below ((Below.refl _ _).alloc (Nat.le_refl _) _)) _ 4194303 _ (by omega) (by simp)).mono ?_
  rintro e w8 ⟨rfl, rfl⟩
  go_wp2_with fail
  obtain ⟨z, hz, hrz⟩ := made_RB (w6.alloc (.cells (madeCells #[.int .u8 0] 4194303) 5)) 4194302
  have HZ := Lib.hid hz
  have HRZ := Lib.hid hrz
  clear hz hrz
  refine (diskAppend_any _ w.heap.size w.heap.size _ _ _ (D6.out.below (((Below.refl _ _).alloc (Nat.le_refl _) _).alloc (by simp) _)) _ 4194302 _ z HZ.out ?hr3 (by rw [HZ.out]; simp)).mono ?_
  case hr3 => have h := HRZ.out; simpa using h
  rintro e w9 ⟨v9, rfl, hd, hu, _⟩
  have D9 := Lib.hid hd
  have B9 := Lib.hid ((D6.out.below (((Below.refl _ _).alloc (Nat.le_refl _) _).alloc (by simp) _)).goes ((B6.out.alloc B6.out.size _).alloc (by have := B6.out.size; simp; omega) _) hu)
  clear hd hu
  have hl9 : ([97, 98] ++ z).length = 4194304 := by rw [List.length_append, HZ.out]; rfl
  have HL9 := Lib.hid hl9
  clear hl9
  generalize [97, 98] ++ z = y at D9 HL9
  go_wp2_with fail
  refine (diskAppend_full _ w.heap.size w.heap.size _ _ _ (D9.out.below ((Below.refl _ _).alloc (Nat.le_refl _) _)) _ 1 _ (by omega) (by rw [HL9.out]; omega)).mono ?_
  rintro e w10 ⟨rfl, rfl⟩
  go_wp2_with fail
  refine (diskBytes_any _ w.heap.size w.heap.size _ _ _ (D9.out.below ((Below.refl _ _).alloc (Nat.le_refl _) _))).mono ?_
  rintro e w11 ⟨x, rfl, ho, hb⟩
  have B11 := Lib.hid (below_below (B9.out.alloc B9.out.size _) (by have := B9.out.size; simp; omega) hb)
  obtain ⟨A6, c6, rfl, _⟩ := own_slice ho
  clear ho hb
  rw [HL9.out]
  go_wp2_with fail
  refine (known4_any _).mono ?_
  rintro e w12 ⟨rfl, hb⟩
  have B12 := Lib.hid (below_below B11.out B11.out.size hb)
  clear hb
  go_wp2_with fail
  go_ret
  exact ⟨rfl, B12.out⟩
end Go.Proofs.Ytiefgnmekikckaa
