/-
  The walk of conclavelaw2.known: it returns true.
-/
import Derived.Test.YtiefgnmekikckaaCrc
import Derived.Test.YtiefgnmekikckaaHex
set_option linter.unusedVariables false
set_option linter.unusedSimpArgs false
namespace Go.Proofs.Ytiefgnmekikckaa
open Go.RowKit

set_option maxHeartbeats 2000000 in
theorem known2_any (w : World) : Calls Try.prog 15 #[] w fun e w' => e = .returned (.bool true) ∧ Below w.heap.size w w' := by
  have k1 : un32 (crcOf [49, 50, 51, 52, 53, 54, 55, 56, 57]) = 3421780262 := by rw [crc_known]; rfl
  have k2 : hexOf [0, 175] = [48, 48, 97, 102] := hex_known
  have kc := fun (w : World) (C : Array Value) (n c : Nat) => Lib.run_convert_bytes_const (P := Try.prog) w 22 5 C n c Try.underlying22 Try.underlying5
  go_enter Try.func15, Try.ntmps15
  go_wp2_with fail
  refine (crc_any _ 9 9 [49, 50, 51, 52, 53, 54, 55, 56, 57] _ rfl (by omega) ?hr1).mono ?_
  case hr1 => exact RB_newM w [49, 50, 51, 52, 53, 54, 55, 56, 57] 5 _
  rintro e w' ⟨rfl, rfl⟩
  rw [k1]
  go_wp2_with fail
  refine (hex_any _ 2 2 [0, 175] _ rfl (by omega) ?hr2).mono ?_
  case hr2 => exact RB_at _ [0, 175] 5 _ _ (by simp)
  rintro e w' ⟨rfl, hb⟩
  rw [k2]
  go_wp2_with fail
  go_ret
  exact ⟨rfl, below_below (((Below.refl _ _).alloc (Nat.le_refl _) _).alloc (by simp) _) (by simp; omega) hb⟩
end Go.Proofs.Ytiefgnmekikckaa
