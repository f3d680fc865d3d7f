/-
  The walks of bits.RotateLeft32 and of the reference's turn, at the amounts that SHA-256 names.
-/
import Derived.Test.YthlbmjjodjepjaaShaPure
set_option linter.unusedVariables false
set_option linter.unusedSimpArgs false
namespace Go.Proofs.Ythlbmjjodjepjaa
open Go.RowKit

theorem amt_7 : bits .and .u64 (IntKind.u64.wrap (-7)) 31 = 25 := by decide +kernel
theorem shl_7 (x : UInt32) : un32 x * 33554432 % 4294967296 = un32 (shlW x 25) := (un32_shl x 25).symm
theorem shr_7 (x : UInt32) : un32 x / 128 = un32 (shrW x 7) := (un32_shr x 7).symm
section
attribute [local go_sem] amt_7 shl_7 shr_7 or32
set_option maxHeartbeats 1000000 in
theorem rot_7 (x : UInt32) (w : World) : Calls Try.prog 93 #[.int .u32 (un32 x), .int .i64 (-7)] w fun e w' => e = .returned (.int .u32 (un32 (rotr x 7))) ∧ w = w' := by
  go_enter Try.func93, Try.ntmps93
  go_wp2
  go_ret
  exact ⟨rfl, rfl⟩
set_option maxHeartbeats 1000000 in
theorem turn_7 (x : UInt32) (w : World) : Calls Try.prog 92 #[.int .u32 (un32 x), .int .u64 7] w fun e w' => e = .returned (.int .u32 (un32 (rotr x 7))) ∧ w = w' := by
  go_enter Try.func92, Try.ntmps92
  go_wp2
  go_ret
  exact ⟨ret_int (by rw [UInt32.or_comm]; rfl), rfl⟩
end

theorem amt_18 : bits .and .u64 (IntKind.u64.wrap (-18)) 31 = 14 := by decide +kernel
theorem shl_18 (x : UInt32) : un32 x * 16384 % 4294967296 = un32 (shlW x 14) := (un32_shl x 14).symm
theorem shr_18 (x : UInt32) : un32 x / 262144 = un32 (shrW x 18) := (un32_shr x 18).symm
section
attribute [local go_sem] amt_18 shl_18 shr_18 or32
set_option maxHeartbeats 1000000 in
theorem rot_18 (x : UInt32) (w : World) : Calls Try.prog 93 #[.int .u32 (un32 x), .int .i64 (-18)] w fun e w' => e = .returned (.int .u32 (un32 (rotr x 18))) ∧ w = w' := by
  go_enter Try.func93, Try.ntmps93
  go_wp2
  go_ret
  exact ⟨rfl, rfl⟩
set_option maxHeartbeats 1000000 in
theorem turn_18 (x : UInt32) (w : World) : Calls Try.prog 92 #[.int .u32 (un32 x), .int .u64 18] w fun e w' => e = .returned (.int .u32 (un32 (rotr x 18))) ∧ w = w' := by
  go_enter Try.func92, Try.ntmps92
  go_wp2
  go_ret
  exact ⟨ret_int (by rw [UInt32.or_comm]; rfl), rfl⟩
end

theorem amt_17 : bits .and .u64 (IntKind.u64.wrap (-17)) 31 = 15 := by decide +kernel
theorem shl_17 (x : UInt32) : un32 x * 32768 % 4294967296 = un32 (shlW x 15) := (un32_shl x 15).symm
theorem shr_17 (x : UInt32) : un32 x / 131072 = un32 (shrW x 17) := (un32_shr x 17).symm
section
attribute [local go_sem] amt_17 shl_17 shr_17 or32
set_option maxHeartbeats 1000000 in
theorem rot_17 (x : UInt32) (w : World) : Calls Try.prog 93 #[.int .u32 (un32 x), .int .i64 (-17)] w fun e w' => e = .returned (.int .u32 (un32 (rotr x 17))) ∧ w = w' := by
  go_enter Try.func93, Try.ntmps93
  go_wp2
  go_ret
  exact ⟨rfl, rfl⟩
set_option maxHeartbeats 1000000 in
theorem turn_17 (x : UInt32) (w : World) : Calls Try.prog 92 #[.int .u32 (un32 x), .int .u64 17] w fun e w' => e = .returned (.int .u32 (un32 (rotr x 17))) ∧ w = w' := by
  go_enter Try.func92, Try.ntmps92
  go_wp2
  go_ret
  exact ⟨ret_int (by rw [UInt32.or_comm]; rfl), rfl⟩
end

theorem amt_19 : bits .and .u64 (IntKind.u64.wrap (-19)) 31 = 13 := by decide +kernel
theorem shl_19 (x : UInt32) : un32 x * 8192 % 4294967296 = un32 (shlW x 13) := (un32_shl x 13).symm
theorem shr_19 (x : UInt32) : un32 x / 524288 = un32 (shrW x 19) := (un32_shr x 19).symm
section
attribute [local go_sem] amt_19 shl_19 shr_19 or32
set_option maxHeartbeats 1000000 in
theorem rot_19 (x : UInt32) (w : World) : Calls Try.prog 93 #[.int .u32 (un32 x), .int .i64 (-19)] w fun e w' => e = .returned (.int .u32 (un32 (rotr x 19))) ∧ w = w' := by
  go_enter Try.func93, Try.ntmps93
  go_wp2
  go_ret
  exact ⟨rfl, rfl⟩
set_option maxHeartbeats 1000000 in
theorem turn_19 (x : UInt32) (w : World) : Calls Try.prog 92 #[.int .u32 (un32 x), .int .u64 19] w fun e w' => e = .returned (.int .u32 (un32 (rotr x 19))) ∧ w = w' := by
  go_enter Try.func92, Try.ntmps92
  go_wp2
  go_ret
  exact ⟨ret_int (by rw [UInt32.or_comm]; rfl), rfl⟩
end

theorem amt_6 : bits .and .u64 (IntKind.u64.wrap (-6)) 31 = 26 := by decide +kernel
theorem shl_6 (x : UInt32) : un32 x * 67108864 % 4294967296 = un32 (shlW x 26) := (un32_shl x 26).symm
theorem shr_6 (x : UInt32) : un32 x / 64 = un32 (shrW x 6) := (un32_shr x 6).symm
section
attribute [local go_sem] amt_6 shl_6 shr_6 or32
set_option maxHeartbeats 1000000 in
theorem rot_6 (x : UInt32) (w : World) : Calls Try.prog 93 #[.int .u32 (un32 x), .int .i64 (-6)] w fun e w' => e = .returned (.int .u32 (un32 (rotr x 6))) ∧ w = w' := by
  go_enter Try.func93, Try.ntmps93
  go_wp2
  go_ret
  exact ⟨rfl, rfl⟩
set_option maxHeartbeats 1000000 in
theorem turn_6 (x : UInt32) (w : World) : Calls Try.prog 92 #[.int .u32 (un32 x), .int .u64 6] w fun e w' => e = .returned (.int .u32 (un32 (rotr x 6))) ∧ w = w' := by
  go_enter Try.func92, Try.ntmps92
  go_wp2
  go_ret
  exact ⟨ret_int (by rw [UInt32.or_comm]; rfl), rfl⟩
end

theorem amt_11 : bits .and .u64 (IntKind.u64.wrap (-11)) 31 = 21 := by decide +kernel
theorem shl_11 (x : UInt32) : un32 x * 2097152 % 4294967296 = un32 (shlW x 21) := (un32_shl x 21).symm
theorem shr_11 (x : UInt32) : un32 x / 2048 = un32 (shrW x 11) := (un32_shr x 11).symm
section
attribute [local go_sem] amt_11 shl_11 shr_11 or32
set_option maxHeartbeats 1000000 in
theorem rot_11 (x : UInt32) (w : World) : Calls Try.prog 93 #[.int .u32 (un32 x), .int .i64 (-11)] w fun e w' => e = .returned (.int .u32 (un32 (rotr x 11))) ∧ w = w' := by
  go_enter Try.func93, Try.ntmps93
  go_wp2
  go_ret
  exact ⟨rfl, rfl⟩
set_option maxHeartbeats 1000000 in
theorem turn_11 (x : UInt32) (w : World) : Calls Try.prog 92 #[.int .u32 (un32 x), .int .u64 11] w fun e w' => e = .returned (.int .u32 (un32 (rotr x 11))) ∧ w = w' := by
  go_enter Try.func92, Try.ntmps92
  go_wp2
  go_ret
  exact ⟨ret_int (by rw [UInt32.or_comm]; rfl), rfl⟩
end

theorem amt_25 : bits .and .u64 (IntKind.u64.wrap (-25)) 31 = 7 := by decide +kernel
theorem shl_25 (x : UInt32) : un32 x * 128 % 4294967296 = un32 (shlW x 7) := (un32_shl x 7).symm
theorem shr_25 (x : UInt32) : un32 x / 33554432 = un32 (shrW x 25) := (un32_shr x 25).symm
section
attribute [local go_sem] amt_25 shl_25 shr_25 or32
set_option maxHeartbeats 1000000 in
theorem rot_25 (x : UInt32) (w : World) : Calls Try.prog 93 #[.int .u32 (un32 x), .int .i64 (-25)] w fun e w' => e = .returned (.int .u32 (un32 (rotr x 25))) ∧ w = w' := by
  go_enter Try.func93, Try.ntmps93
  go_wp2
  go_ret
  exact ⟨rfl, rfl⟩
set_option maxHeartbeats 1000000 in
theorem turn_25 (x : UInt32) (w : World) : Calls Try.prog 92 #[.int .u32 (un32 x), .int .u64 25] w fun e w' => e = .returned (.int .u32 (un32 (rotr x 25))) ∧ w = w' := by
  go_enter Try.func92, Try.ntmps92
  go_wp2
  go_ret
  exact ⟨ret_int (by rw [UInt32.or_comm]; rfl), rfl⟩
end

theorem amt_2 : bits .and .u64 (IntKind.u64.wrap (-2)) 31 = 30 := by decide +kernel
theorem shl_2 (x : UInt32) : un32 x * 1073741824 % 4294967296 = un32 (shlW x 30) := (un32_shl x 30).symm
theorem shr_2 (x : UInt32) : un32 x / 4 = un32 (shrW x 2) := (un32_shr x 2).symm
section
attribute [local go_sem] amt_2 shl_2 shr_2 or32
set_option maxHeartbeats 1000000 in
theorem rot_2 (x : UInt32) (w : World) : Calls Try.prog 93 #[.int .u32 (un32 x), .int .i64 (-2)] w fun e w' => e = .returned (.int .u32 (un32 (rotr x 2))) ∧ w = w' := by
  go_enter Try.func93, Try.ntmps93
  go_wp2
  go_ret
  exact ⟨rfl, rfl⟩
set_option maxHeartbeats 1000000 in
theorem turn_2 (x : UInt32) (w : World) : Calls Try.prog 92 #[.int .u32 (un32 x), .int .u64 2] w fun e w' => e = .returned (.int .u32 (un32 (rotr x 2))) ∧ w = w' := by
  go_enter Try.func92, Try.ntmps92
  go_wp2
  go_ret
  exact ⟨ret_int (by rw [UInt32.or_comm]; rfl), rfl⟩
end

theorem amt_13 : bits .and .u64 (IntKind.u64.wrap (-13)) 31 = 19 := by decide +kernel
theorem shl_13 (x : UInt32) : un32 x * 524288 % 4294967296 = un32 (shlW x 19) := (un32_shl x 19).symm
theorem shr_13 (x : UInt32) : un32 x / 8192 = un32 (shrW x 13) := (un32_shr x 13).symm
section
attribute [local go_sem] amt_13 shl_13 shr_13 or32
set_option maxHeartbeats 1000000 in
theorem rot_13 (x : UInt32) (w : World) : Calls Try.prog 93 #[.int .u32 (un32 x), .int .i64 (-13)] w fun e w' => e = .returned (.int .u32 (un32 (rotr x 13))) ∧ w = w' := by
  go_enter Try.func93, Try.ntmps93
  go_wp2
  go_ret
  exact ⟨rfl, rfl⟩
set_option maxHeartbeats 1000000 in
theorem turn_13 (x : UInt32) (w : World) : Calls Try.prog 92 #[.int .u32 (un32 x), .int .u64 13] w fun e w' => e = .returned (.int .u32 (un32 (rotr x 13))) ∧ w = w' := by
  go_enter Try.func92, Try.ntmps92
  go_wp2
  go_ret
  exact ⟨ret_int (by rw [UInt32.or_comm]; rfl), rfl⟩
end

theorem amt_22 : bits .and .u64 (IntKind.u64.wrap (-22)) 31 = 10 := by decide +kernel
theorem shl_22 (x : UInt32) : un32 x * 1024 % 4294967296 = un32 (shlW x 10) := (un32_shl x 10).symm
theorem shr_22 (x : UInt32) : un32 x / 4194304 = un32 (shrW x 22) := (un32_shr x 22).symm
section
attribute [local go_sem] amt_22 shl_22 shr_22 or32
set_option maxHeartbeats 1000000 in
theorem rot_22 (x : UInt32) (w : World) : Calls Try.prog 93 #[.int .u32 (un32 x), .int .i64 (-22)] w fun e w' => e = .returned (.int .u32 (un32 (rotr x 22))) ∧ w = w' := by
  go_enter Try.func93, Try.ntmps93
  go_wp2
  go_ret
  exact ⟨rfl, rfl⟩
set_option maxHeartbeats 1000000 in
theorem turn_22 (x : UInt32) (w : World) : Calls Try.prog 92 #[.int .u32 (un32 x), .int .u64 22] w fun e w' => e = .returned (.int .u32 (un32 (rotr x 22))) ∧ w = w' := by
  go_enter Try.func92, Try.ntmps92
  go_wp2
  go_ret
  exact ⟨ret_int (by rw [UInt32.or_comm]; rfl), rfl⟩
end

end Go.Proofs.Ythlbmjjodjepjaa
