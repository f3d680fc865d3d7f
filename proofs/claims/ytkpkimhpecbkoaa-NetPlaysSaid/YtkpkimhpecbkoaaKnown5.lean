/-
  The walk of the law's 'known': chapter 5's runs.
-/
import Derived.Test.YtkpkimhpecbkoaaNetPlain
set_option linter.unusedVariables false
set_option linter.unusedSimpArgs false
namespace Go.Proofs.Ytkpkimhpecbkoaa
open Go.RowKit

set_option maxRecDepth 100000 in
set_option maxHeartbeats 8000000 in
theorem known5_any (w : World) : Calls Try.prog 32 #[] w fun e w' => e = .returned (.bool true) ∧ Below w.heap.size w w' := by
  have kc := fun (w : World) (C : Array Value) (n c : Nat) => Lib.run_convert_bytes_const (P := Try.prog) w 41 5 C n c Try.underlying41 Try.underlying5
  go_enter Try.func32, Try.ntmps32
  go_wp2_with fail
  refine (netNew_any 3 _ (by omega) (by omega)).mono ?_
  rintro e w1 ⟨rfl, hn1, hb1⟩
  have N1 := Lib.hid (show Nt w1 w.heap.size w.heap.size (.slice none 0 0) 3 0 [] from ⟨[], hn1, rfl⟩)
  have B1 := Lib.hid hb1
  clear hn1 hb1
  go_wp2_with fail
  have N2 := Lib.hid (N1.out.below ((Below.refl _ _).alloc (Nat.le_refl _) (.cells #[.int .u8 97] 5 (1, 2))))
  have B2 := Lib.hid (B1.out.alloc B1.out.size (.cells #[.int .u8 97] 5 (1, 2)))
  refine (send_plain N2.out 0 1 (some ⟨w1.heap.size, 0, none⟩) 1 1 [97] rfl (by simp) (RB_newM w1 [97] 5 (1, 2)) (fun h => by cases h) (by omega) (by omega) (by omega) (by omega) (by simp) (by omega) (by omega)).mono ?_
  rintro e w3 ⟨v3, rfl, ht3⟩
  have N3 := Lib.hid (show Nt w3 w.heap.size w.heap.size v3 3 1 [(0, 1, [97])] from ht3.net)
  have B3 := Lib.hid (N2.out.goes B2.out ht3.upd)
  clear ht3
  go_wp2_with fail
  refine (twice_plain N3.out 0 (0, 1, [97]) rfl (by simp) (by omega) (by omega)).mono ?_
  rintro e w4 ⟨v4, rfl, ht4⟩
  have N4 := Lib.hid (show Nt w4 w.heap.size w.heap.size v4 3 1 [(0, 1, [97]), (0, 1, [97])] from ht4.net)
  have B4 := Lib.hid (N3.out.goes B3.out ht4.upd)
  clear ht4
  go_wp2_with fail
  refine (take_plain N4.out 0 0 1 [97] rfl (by omega) (by omega)).mono ?_
  rintro e w5 ⟨A5, c5, v5, rfl, ht5, hv5, hg5⟩
  have N5 := Lib.hid (show Nt w5 w.heap.size w.heap.size v5 3 1 [(0, 1, [97])] from ht5.net)
  have B5 := Lib.hid (N4.out.goes B4.out ht5.upd)
  have G5 := Lib.hid hg5
  have F5 := Lib.hid (show ∀ ad, A5 = some ad → ¬ nfoot w.heap.size v5 ad.block from fun ad e hk => by
    have h1 := hg5.new ad e
    have h2 := N4.out.foot_lt ad.block (by rcases hk with hk | hk; exact .inl hk; exact .inr (hv5 ▸ hk))
    omega)
  have S5 := Lib.hid ht5.upd.size
  clear ht5 hv5 hg5
  go_upto_region 7 with fail
  have N6 := Lib.hid (N5.out.below ((Below.refl _ _).alloc (Nat.le_refl _) (.cells #[.int .i64 0, .int .i64 1, .slice A5 1 c5] 47)))
  have B6 := Lib.hid (B5.out.alloc B5.out.size (.cells #[.int .i64 0, .int .i64 1, .slice A5 1 c5] 47))
  have H6 := Lib.hid (heap_alloc_new w5 (.cells #[.int .i64 0, .int .i64 1, .slice A5 1 c5] 47))
  have D6 := Lib.hid (G5.out.body.below ((Below.refl _ _).alloc (Nat.le_refl _) (.cells #[.int .i64 0, .int .i64 1, .slice A5 1 c5] 47)))
  go_wp2_with fail
  refine (take_plain N6.out 7 0 1 [97] rfl (by omega) (by omega)).mono ?_
  rintro e w7 ⟨A7, c7, v7, rfl, ht7, hv7, hg7⟩
  have N7 := Lib.hid (show Nt w7 w.heap.size w.heap.size v7 3 1 [] from ht7.net)
  have B7 := Lib.hid (N6.out.goes B6.out ht7.upd)
  have G7 := Lib.hid hg7
  have D7 := Lib.hid (D6.out.off_upd ht7.upd F5.out)
  have hsz6 : (w5.alloc (.cells #[.int .i64 0, .int .i64 1, .slice A5 1 c5] 47)).heap.size = w5.heap.size + 1 := by simp
  have H7 := Lib.hid ((ht7.upd.block w5.heap.size (by omega) (fun hk => by have := N5.out.foot_lt _ hk; omega)).trans H6.out)
  have S7 := Lib.hid ht7.upd.size
  clear ht7 hv7 hg7
  go_upto_region 8 with fail
  obtain ⟨W8, hW8⟩ : ∃ W8, W8 = w7.alloc (.cells #[.int .i64 0, .int .i64 1, .slice A7 1 c7] 47) := ⟨_, rfl⟩
  have bel : Below w7.heap.size w7 W8 := by rw [hW8]; exact (Below.refl _ _).alloc (Nat.le_refl _) _
  have N8 := Lib.hid (N7.out.below bel)
  have B8 := Lib.hid (below_below B7.out B7.out.size bel)
  have H8a := Lib.hid ((bel.block w5.heap.size (by have := S7.out; omega)).trans H7.out)
  have H8b := Lib.hid (show W8.heap[w7.heap.size]? = some (.cells #[.int .i64 0, .int .i64 1, .slice A7 1 c7] 47 (0, 0)) by rw [hW8]; exact heap_alloc_new _ _)
  have D8a := Lib.hid (D7.out.below bel)
  have D8b := Lib.hid (G7.out.body.below bel)
  have S8 := Lib.hid bel.size
  rw [← hW8]
  clear hW8
  go_wp2_with fail
  refine (take_none N8.out 0).mono ?_
  rintro e w9 ⟨rfl, hb9⟩
  have B9 := Lib.hid (below_below B8.out B8.out.size hb9)
  have h9a := (hb9.block w5.heap.size (by have := S7.out; have := S8.out; omega)).trans H8a.out
  have h9b := (hb9.block w7.heap.size (by
    have := (Array.getElem?_eq_some_iff.1 H8b.out).1
    omega)).trans H8b.out
  have D9a := Lib.hid (D8a.out.below hb9)
  have D9b := Lib.hid (D8b.out.below hb9)
  have H9a := Lib.hid h9a
  have H9b := Lib.hid h9b
  clear hb9 h9a h9b bel hsz6
  go_upto_region 9 with fail
  obtain ⟨W, hW⟩ : ∃ W, W = w9.alloc (.cells #[.int .i64 0, .int .i64 0, .slice none 0 0] 47) := ⟨_, rfl⟩
  have bel : Below w9.heap.size w9 W := by rw [hW]; exact (Below.refl _ _).alloc (Nat.le_refl _) _
  have B10 := Lib.hid (below_below B9.out B9.out.size bel)
  have h1 := (bel.block _ (Array.getElem?_eq_some_iff.1 H9a.out).1).trans H9a.out
  have h2 := (bel.block _ (Array.getElem?_eq_some_iff.1 H9b.out).1).trans H9b.out
  have x1 : W.cell? ⟨w5.heap.size, 1, none⟩ = some (.int .i64 1) := (cell_of_row W _ 1 _ _ _ h1).trans rfl
  have x2 : W.cell? ⟨w5.heap.size, 2, none⟩ = some (.slice A5 1 c5) := (cell_of_row W _ 2 _ _ _ h1).trans rfl
  have y2 : W.cell? ⟨w7.heap.size, 2, none⟩ = some (.slice A7 1 c7) := (cell_of_row W _ 2 _ _ _ h2).trans rfl
  have s1 := run_string_RB (P := Try.prog) W 41 9 5 Try.underlying41 Try.underlying5 Try.underlying9 A5 1 c5 [97] rfl (D9a.out.below bel).r
  have s2 := run_string_RB (P := Try.prog) W 41 9 5 Try.underlying41 Try.underlying5 Try.underlying9 A7 1 c7 [97] rfl (D9b.out.below bel).r
  rw [← hW]
  clear hW bel h1 h2
  go_wp2_with fail
  go_ret
  exact ⟨rfl, B10.out⟩

end Go.Proofs.Ytkpkimhpecbkoaa
