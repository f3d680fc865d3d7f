/-
  The walk of conclavebook.Within: a number brought into lo .. hi.
-/
import Derived.Test.YthlbmjjodjepjaaBase
set_option linter.unusedVariables false
set_option linter.unusedSimpArgs false
namespace Go.Proofs.Ythlbmjjodjepjaa
open Go.RowKit

/-- What Within gives. -/
def withinOf (n lo hi : Int) : Int := lo + n % (hi - lo + 1)
theorem withinOf_range (n lo hi : Int) (h : lo ≤ hi) : lo ≤ withinOf n lo hi ∧ withinOf n lo hi ≤ hi := by
  unfold withinOf
  have h1 := Int.emod_nonneg n (show hi - lo + 1 ≠ 0 by omega)
  have h2 := Int.emod_lt_of_pos n (show 0 < hi - lo + 1 by omega)
  omega
theorem tmod_neg_fix (n m : Int) (hm : 0 < m) (h : n.tmod m < 0) : n.tmod m + m = n % m := by
  have h1 := Int.emod_nonneg n (show m ≠ 0 by omega)
  have h2 := Int.emod_lt_of_pos n hm
  have e1 := Int.emod_add_mul_ediv n m
  have e2 := Int.tmod_add_mul_tdiv n m
  have h3 : -m < n.tmod m := by
    have := Int.lt_tmod_of_pos n hm
    exact this
  have e3 : n % m - n.tmod m = m * (n.tdiv m - n / m) := by rw [Int.mul_sub]; omega
  have e4 : n.tdiv m - n / m = 1 := by
    generalize n.tdiv m - n / m = q at e3
    by_cases hq : q ≤ 0
    · have : m * q ≤ 0 := Int.mul_nonpos_of_nonneg_of_nonpos (by omega) hq
      omega
    · by_cases hq2 : 2 ≤ q
      · have : m * 2 ≤ m * q := Int.mul_le_mul_of_nonneg_left hq2 (by omega)
        omega
      · omega
  rw [e4] at e3
  omega
theorem tmod_pos_fix (n m : Int) (hm : 0 < m) (h : ¬ n.tmod m < 0) : n.tmod m = n % m := by
  have e := Int.tmod_eq_emod (a := n) (b := m)
  have h1 := Int.emod_lt_of_pos n hm
  have h2 : ((m.natAbs : Nat) : Int) = m := Int.natAbs_of_nonneg (by omega)
  split at e
  · omega
  · omega
theorem tmod_range (n m : Int) (hm : 0 < m) : -m < n.tmod m ∧ n.tmod m < m := by
  exact ⟨Int.lt_tmod_of_pos n hm, Int.tmod_lt_of_pos n hm⟩

set_option maxHeartbeats 1000000 in
theorem within_any (n lo hi : Int) (w : World) (h1 : lo ≤ hi) (h0 : -4611686018427387904 ≤ lo) (h2 : hi ≤ 4611686018427387000) (hd : hi - lo ≤ 4611686018427387000) :
    Calls Try.prog 17 #[.int .i64 n, .int .i64 lo, .int .i64 hi] w fun e w' => e = .returned (.int .i64 (withinOf n lo hi)) ∧ w = w' := by
  have hr := tmod_range n (hi - lo + 1) (by omega)
  have hp : (0 : Int) < hi - lo + 1 := by omega
  by_cases h : n.tmod (hi - lo + 1) < 0
  · have H := Lib.hid (tmod_neg_fix n (hi - lo + 1) (by omega) h)
    go_enter Try.func17, Try.ntmps17
    go_wp2
    go_ret
    exact ⟨ret_int (by unfold withinOf; rw [← H.out]; omega), rfl⟩
  · have H := Lib.hid (tmod_pos_fix n (hi - lo + 1) (by omega) h)
    go_enter Try.func17, Try.ntmps17
    go_wp2
    go_ret
    exact ⟨ret_int (by unfold withinOf; rw [← H.out]), rfl⟩

end Go.Proofs.Ythlbmjjodjepjaa
