/-
  The walk of the reference's Hash.
-/
import Derived.Test.YtiefgnmekikckaaSumHash
import Derived.Test.YtiefgnmekikckaaRefCrc
set_option linter.unusedVariables false
set_option linter.unusedSimpArgs false
namespace Go.Proofs.Ytiefgnmekikckaa
open Go.RowKit

section
attribute [local go_sem] and255 wrap64_un32
set_option maxHeartbeats 2000000 in
theorem refHash_any (s : ByteArray) (w : World) (hs : s.size ≤ 140737488351232) :
    Calls Try.prog 42 #[.string s] w fun e w' => e = .returned (.int .i64 (hashOf s)) ∧ Below w.heap.size w w' := by
  have b0 := (un32_range (crcOf s.data.toList &&& 255)).1
  have b1 := (un32_range (crcOf s.data.toList &&& 255)).2
  have kb := fun W => Lib.run_convert_string_bytes (P := Try.prog) W 9 22 5 s Try.underlying9 Try.underlying22 Try.underlying5
  go_enter Try.func42, Try.ntmps42
  go_wp2_with fail
  refine (refCrc_any _ s.size _ s.data.toList _ (data_length s) (by omega) (bytes_RB _ _ _)).mono ?_
  rintro e w' ⟨rfl, rfl⟩
  go_wp2_with fail
  go_ret
  exact ⟨rfl, bytes_below (Below.refl _ _) (Nat.le_refl _) _ _⟩
end

end Go.Proofs.Ytiefgnmekikckaa
