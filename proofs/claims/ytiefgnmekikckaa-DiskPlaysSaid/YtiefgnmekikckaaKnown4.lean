/-
  The walk of conclavelaw4.known: it returns true.
-/
import Derived.Test.YtiefgnmekikckaaDisk
set_option linter.unusedVariables false
set_option linter.unusedSimpArgs false
namespace Go.Proofs.Ytiefgnmekikckaa
open Go.RowKit

set_option maxHeartbeats 2000000 in
theorem known4_any (w : World) : Calls Try.prog 26 #[] w fun e w' => e = .returned (.bool true) ∧ Below w.heap.size w w' := by
  have kc := fun (w : World) (C : Array Value) (n c : Nat) => Lib.run_convert_bytes_const (P := Try.prog) w 22 5 C n c Try.underlying22 Try.underlying5
  go_enter Try.func26, Try.ntmps26
  go_wp2_with fail
  refine (diskNew_any _).mono ?_
  rintro e w1 ⟨rfl, hd, hb⟩
  have D1 := Lib.hid hd
  have B1 := Lib.hid hb
  clear hd hb
  go_wp2_with fail
  refine (diskAppend_any _ w.heap.size w.heap.size _ [] 0 (D1.out.below ((Below.refl _ _).alloc (Nat.le_refl _) _)) _ 2 _ [97, 98] rfl ?hr1 (by simp)).mono ?_
  case hr1 => exact RB_at w1 [97, 98] 5 _ _ rfl
  rintro e w2 ⟨v2, rfl, hd, hu, _⟩
  have D2 := Lib.hid (show DiskAt w2 w.heap.size w.heap.size v2 [97, 98] 0 from hd)
  have B2 := Lib.hid ((D1.out.below ((Below.refl _ _).alloc (Nat.le_refl _) _)).goes (B1.out.alloc B1.out.size _) hu)
  clear hd hu
  go_wp2_with fail
  refine (diskSync_any _ w.heap.size w.heap.size _ _ 0 D2.out).mono ?_
  rintro e w3 ⟨v3, rfl, hd, hu, _⟩
  have D3 := Lib.hid (show DiskAt w3 w.heap.size w.heap.size v3 [97, 98] 2 from hd)
  have B3 := Lib.hid (D2.out.goes B2.out hu)
  clear hd hu
  go_wp2_with fail
  refine (diskAppend_any _ w.heap.size w.heap.size _ _ _ (D3.out.below ((Below.refl _ _).alloc (Nat.le_refl _) _)) _ 2 _ [99, 100] rfl ?hr2 (by simp)).mono ?_
  case hr2 => exact RB_at w3 [99, 100] 5 _ _ rfl
  rintro e w4 ⟨v4, rfl, hd, hu, _⟩
  have D4 := Lib.hid (show DiskAt w4 w.heap.size w.heap.size v4 [97, 98, 99, 100] 2 from hd)
  have B4 := Lib.hid ((D3.out.below ((Below.refl _ _).alloc (Nat.le_refl _) _)).goes (B3.out.alloc B3.out.size _) hu)
  clear hd hu
  go_wp2_with fail
  refine (diskCrash_any _ w.heap.size w.heap.size _ _ _ D4.out 1 (by omega) (by omega)).mono ?_
  rintro e w5 ⟨v5, rfl, hd, hu, _⟩
  have D5 := Lib.hid (show DiskAt w5 w.heap.size w.heap.size v5 [97, 98, 99] 3 from hd)
  have B5 := Lib.hid (D4.out.goes B4.out hu)
  clear hd hu
  go_wp2_with fail
  refine (diskBytes_any _ w.heap.size w.heap.size _ _ _ D5.out).mono ?_
  rintro e w6 ⟨x, rfl, ho, hb⟩
  obtain ⟨A6, c6, rfl, _⟩ := own_slice ho
  have hst := run_string_RB (P := Try.prog) w6 22 9 5 Try.underlying22 Try.underlying5 Try.underlying9 A6 3 c6 [97, 98, 99] rfl (own_RC ho).bytes
  have D6 := Lib.hid (D5.out.below hb)
  have B6 := Lib.hid (below_below B5.out B5.out.size hb)
  clear ho hb
  go_wp2_with fail
  refine (diskSafe_any _ w.heap.size w.heap.size _ _ _ D6.out).mono ?_
  rintro e w7 ⟨rfl, rfl⟩
  go_wp2_with fail
  go_ret
  exact ⟨rfl, B6.out⟩
end Go.Proofs.Ytiefgnmekikckaa
