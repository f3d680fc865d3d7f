/-
  The walk of the law NetNumbers.
-/
import Derived.Test.YtdiciopbjmmplaaKnown5
set_option linter.unusedVariables false
set_option linter.unusedSimpArgs false
namespace Go.Proofs.Ytdiciopbjmmplaa
open Go.RowKit

def sentL (i : Nat) : List Pl := (List.range i).map fun j => ((1 : Int), (0 : Int), [UInt8.ofNat j])
theorem sentL_length (i : Nat) : (sentL i).length = i := by simp [sentL]
theorem sentL_succ (i : Nat) : sentL (i + 1) = sentL i ++ [(1, 0, [UInt8.ofNat i])] := by simp [sentL, List.range_succ]
theorem sentL_get (i j : Nat) (h : j < i) : (sentL i)[j]? = some (1, 0, [UInt8.ofNat j]) := by simp [sentL, h]
theorem byte_of (i : Nat) : ((i : Int) % 256) = un8 (UInt8.ofNat i) := by
  unfold un8
  simp

set_option maxRecDepth 100000 in
set_option maxHeartbeats 8000000 in
theorem netNumbers_any (w : World) : Calls Try.prog 6 #[] w fun e w' => e = .returned (.bool true) ∧ Below w.heap.size w w' := by
  go_enter Try.func6, Try.ntmps6
  go_wp2_with fail
  refine (netNew_no 0 _ (by omega)).mono ?_
  rintro e w1 ⟨rfl, rfl⟩
  go_wp2_with fail
  refine (netNew_no 6 _ (by omega)).mono ?_
  rintro e w1 ⟨rfl, rfl⟩
  go_wp2_with fail
  refine (netNew_any 2 _ (by omega) (by omega)).mono ?_
  rintro e w1 ⟨rfl, hn1, hb1⟩
  have N1 := Lib.hid (show Nt w1 w.heap.size w.heap.size (.slice none 0 0) 2 0 (sentL 0) from ⟨[], hn1, rfl⟩)
  have B1 := Lib.hid hb1
  clear hn1 hb1
  go_wp2_with fail
  refine (send_arg N1.out 2 0 none 0 0 (by omega)).mono ?_
  rintro e w2 ⟨rfl, rfl⟩
  go_wp2_with fail
  refine (send_arg N1.out 0 (-1) none 0 0 (by omega)).mono ?_
  rintro e w2 ⟨rfl, rfl⟩
  go_wp2_with fail
  go_loopg [9] 512 (fun k s9 wr => ∃ (i : Nat) (v : Value), i ≤ 512 ∧ k = 512 - i ∧ s9 = .int .i64 (i : Int) ∧ Nt wr w.heap.size w.heap.size v 2 (i : Int) (sentL i) ∧ Below w.heap.size w wr)
  case atStart => exact ⟨0, _, Nat.zero_le _, by omega, rfl, N1.out, B1.out⟩
  case round =>
    obtain ⟨i, v, hi, hk, rfl, hn, hb⟩ := hrel
    have HK := Lib.hid hk
    have HN := Lib.hid hn
    have HB := Lib.hid hb
    clear hk hn hb N1 B1
    by_cases hlt : i < 512
    · have i1 : (i : Int) < 512 := by omega
      have hbi := byte_of i
      have HLT := Lib.hid hlt
      clear hlt
      go_wp2_with fail
      have hN := HN.out.below ((Below.refl _ _).alloc (Nat.le_refl _) (.cells #[.int .u8 (un8 (UInt8.ofNat i))] 5))
      refine (send_plain hN 1 0 (some ⟨wr.heap.size, 0, none⟩) 1 1 [UInt8.ofNat i] rfl (by simp) (RB_new wr [UInt8.ofNat i] 5) (fun h => by cases h) (by omega) (by omega) (by omega) (by omega) (by rw [sentL_length]; exact HLT.out) (by omega) (by omega)).mono ?_
      rintro e w3 ⟨v3, rfl, ht3⟩
      have N3 := Lib.hid (show Nt w3 w.heap.size w.heap.size v3 2 ((i + 1 : Nat) : Int) (sentL (i + 1)) by rw [sentL_succ]; exact ht3.net)
      have B3 := Lib.hid (hN.goes (HB.out.alloc HB.out.size _) ht3.upd)
      clear ht3 hN
      go_wp2_with fail
      go_roundg (512 - (i + 1))
      case measure => have := HK.out; have := HLT.out; omega
      case rel => exact ⟨i + 1, v3, HLT.out, rfl, by go_num, N3.out, B3.out⟩
    · obtain rfl : i = 512 := by omega
      go_wp2_with fail
      refine (send_full HN.out 0 0 none 0 0 (by omega) (by omega) (by omega) (by omega) (by rw [sentL_length]; omega)).mono ?_
      rintro e w3 ⟨rfl, rfl⟩
      go_wp2_with fail
      refine (twice_no HN.out 0 (.inr (by rw [sentL_length]; omega)) (by omega) (by omega)).mono ?_
      rintro e w3 ⟨rfl, rfl⟩
      go_wp2_with fail
      refine (drop_plain HN.out (-1) (by rw [sentL_length]; omega) (by omega) (by omega)).mono ?_
      rintro e w4 ⟨v4, rfl, ht4⟩
      have hp4 : placeOf (-1) (sentL 512).length = 0 := by rw [sentL_length]; rfl
      rw [hp4] at ht4
      have hl4 : ((sentL 512).eraseIdx 0).length = 511 := by rw [List.length_eraseIdx_of_lt (by rw [sentL_length]; omega), sentL_length]
      have hg4 : ((sentL 512).eraseIdx 0)[0]? = some (1, 0, [1]) := by rw [List.getElem?_eraseIdx, if_neg (by omega), sentL_get _ _ (by omega)]; rfl
      generalize (sentL 512).eraseIdx 0 = l4 at *
      have N4 := Lib.hid ht4.net
      have B4 := Lib.hid (HN.out.goes HB.out ht4.upd)
      clear ht4
      go_wp2_with fail
      have hp5 : placeOf (-1) l4.length = 0 := by rw [hl4]; rfl
      refine (take_plain N4.out (-1) 1 0 [1] (by rw [hp5]; exact hg4) (by omega) (by omega)).mono ?_
      rw [hp5]
      rintro e w5 ⟨A5, c5, v5, rfl, ht5, hv5, hg5⟩
      have hl5 : (l4.eraseIdx 0).length = 510 := by rw [List.length_eraseIdx_of_lt (by omega), hl4]
      generalize l4.eraseIdx 0 = l5 at *
      obtain ⟨b1, o1, rfl, r1⟩ := RC.parts hg5.body.r.cells (by simp [bv])
      have r2 := r1 0 _ rfl
      have N5 := Lib.hid ht5.net
      have B5 := Lib.hid (N4.out.goes B4.out ht5.upd)
      clear ht5 hv5 hg5 r1 hp4 hp5 hg4
      go_upto_region 16 with fail
      obtain ⟨W, hW⟩ : ∃ W, W = w5.alloc (.cells #[.int .i64 1, .int .i64 0, .slice (some ⟨b1, o1, none⟩) 1 c5] 32) := ⟨_, rfl⟩
      have bel : Below w5.heap.size w5 W := by rw [hW]; exact (Below.refl _ _).alloc (Nat.le_refl _) _
      have hWc : W.heap[w5.heap.size]? = some (.cells #[.int .i64 1, .int .i64 0, .slice (some ⟨b1, o1, none⟩) 1 c5] 32 (0, 0)) := by rw [hW]; exact heap_alloc_new _ _
      have x2 : W.cell? ⟨w5.heap.size, 2, none⟩ = some (.slice (some ⟨b1, o1, none⟩) 1 c5) := (cell_of_row W _ 2 _ _ _ hWc).trans rfl
      have x3 : W.cell? ⟨b1, o1, none⟩ = some (.int .u8 1) := cell_below bel r2
      have N6 := Lib.hid (N5.out.below bel)
      have B6 := Lib.hid (below_below B5.out B5.out.size bel)
      rw [← hW]
      clear hW bel hWc r2
      go_wp2_with fail
      refine (sent_plain N6.out).mono ?_
      rintro e w7 ⟨rfl, rfl⟩
      go_wp2_with fail
      refine (pending_plain N6.out).mono ?_
      rintro e w7 ⟨x, M, rfl, hm, ho, hf, hb⟩
      obtain ⟨A7, c7, rfl, _⟩ := own_slice ho
      rw [hl5]
      have B7 := Lib.hid (below_below B6.out B6.out.size hb)
      clear hm ho hf hb
      go_wp2_with fail
      refine (known5_any _).mono ?_
      rintro e w8 ⟨rfl, hb⟩
      have B8 := Lib.hid (below_below B7.out B7.out.size hb)
      clear hb
      go_wp2_with fail
      go_ret
      exact ⟨rfl, B8.out⟩

end Go.Proofs.Ytdiciopbjmmplaa
