/-
  The walk of the law SpanNumbers.
-/
import Derived.Test.YtkpkimhpecbkoaaSpanPlus
set_option linter.unusedVariables false
set_option linter.unusedSimpArgs false
namespace Go.Proofs.Ytkpkimhpecbkoaa
open Go.RowKit

theorem run_trunc_half (w : World) : (callFunc 50 #[.float .f64 4602678819172646912]).run Try.prog w = .ok (.value (.float .f64 0)) w := by
  rw [run_callFunc_extern Try.func50 (by kernel_rfl) (by kernel_rfl) (by kernel_rfl) (show Extern.find Try.f50 = some (Extern.MathFloor.toIntegral "math.archTrunc" .zero) by kernel_rfl)]
  rfl
set_option maxHeartbeats 1000000 in
theorem trunc_half (w : World) : Calls Try.prog 48 #[.float .f64 4602678819172646912] w fun e w' => e = .returned (.float .f64 0) ∧ w = w' := by
  have h1 := run_trunc_half
  go_enter Try.func48, Try.ntmps48
  go_wp2_with fail
  go_ret
  exact ⟨rfl, rfl⟩
set_option maxHeartbeats 1000000 in
theorem whole_half (w : World) : Calls Try.prog 42 #[.float .f64 4602678819172646912] w fun e w' => e = .returned (.bool false) ∧ w = w' := by
  have h1 : (FloatKind.f64.format.order 4602678819172646912 0 == some .eq) = false := by decide
  go_enter Try.func42, Try.ntmps42
  go_wp2_with fail
  refine (trunc_half _).mono ?_
  rintro e w' ⟨rfl, rfl⟩
  go_wp2_with fail
  go_ret
  exact ⟨rfl, rfl⟩
set_option maxHeartbeats 1000000 in
theorem right_half (x : Nat) (w : World) : Calls Try.prog 26 #[.complex .f64 4602678819172646912 x] w fun e w' => e = .returned (.bool false) ∧ w = w' := by
  go_enter Try.func26, Try.ntmps26
  go_wp2_with fail
  refine (whole_half _).mono ?_
  rintro e w' ⟨rfl, rfl⟩
  go_wp2_with fail
  go_ret
  exact ⟨rfl, rfl⟩
set_option maxHeartbeats 1000000 in
theorem parts_half (x : Nat) (w : World) : Calls Try.prog 25 #[.complex .f64 4602678819172646912 x] w fun e w' => e = .returned (.tuple #[.int .i64 0, .int .i64 0, .bool false]) ∧ w = w' := by
  go_enter Try.func25, Try.ntmps25
  go_wp2_with fail
  refine (right_half _ _).mono ?_
  rintro e w' ⟨rfl, rfl⟩
  go_wp2_with fail
  exact bodyPost_ret (v := .tuple #[.int .i64 0, .int .i64 0, .bool false]) (by simp [results, Try.results25, go_sem]) rfl ⟨rfl, rfl⟩
theorem right_is (a b : Int) (q : Bool) (w : World) (ha : Fit a) (hb : Fit b) (h : okB a b = q) : Calls Try.prog 26 #[.complex .f64 (fl a) (fl b)] w fun e w' => e = .returned (.bool q) ∧ w = w' := by
  subst h
  exact right_any a b w ha hb
theorem drift_is (dt rho lo hi : Int) (w : World) (h : driftB dt rho = true) (h1 : driftLo dt rho = lo) (h2 : driftHi dt rho = hi) :
    Calls Try.prog 14 #[.int .i64 dt, .int .i64 rho] w fun e w' => e = .returned (.tuple #[.complex .f64 (fl lo) (fl hi), .bool true]) ∧ Below w.heap.size w w' := by
  have k := drift_any dt rho w
  rw [h, h1, h2] at k
  exact k
theorem drift_not (dt rho : Int) (w : World) (h : driftB dt rho = false) :
    Calls Try.prog 14 #[.int .i64 dt, .int .i64 rho] w fun e w' => e = .returned (.tuple #[.complex .f64 0 0, .bool false]) ∧ Below w.heap.size w w' := by
  have k := drift_any dt rho w
  rw [h] at k
  exact k
theorem add_not (a b c d : Int) (w : World) (h1 : okB a b = true) (h2 : okB c d = true) (h3 : okB (a + c) (b + d) = false) :
    Calls Try.prog 20 #[.complex .f64 (fl a) (fl b), .complex .f64 (fl c) (fl d)] w fun e w' => e = .returned (.tuple #[.complex .f64 0 0, .bool false]) ∧ w = w' := by
  have h := add_any a b c d w (okB_fit h1).1 (okB_fit h1).2 (okB_fit h2).1 (okB_fit h2).2
  rw [h1, h2, h3] at h
  exact h

set_option maxRecDepth 100000 in
set_option maxHeartbeats 8000000 in
theorem spanNumbers_any (w : World) : Calls Try.prog 7 #[] w fun e w' => e = .returned (.bool true) ∧ Below w.heap.size w w' := by
  have k1 : (FloatKind.f64.format.order (fl 4) 4616189618054758400 == some .eq) = true := by decide
  have k2 : (FloatKind.f64.format.order (fl 0) 0 == some .eq) = true := by decide
  have k3 : (FloatKind.f64.format.order (fl 1) 4607182418800017408 == some .eq) = true := by decide
  have k4 : (FloatKind.f64.format.order (fl 9) 4621256167635550208 == some .eq) = true := by decide
  go_enter Try.func7, Try.ntmps7
  go_wp2_with fail
  refine (of_any _ _ _).mono ?_
  rintro e w' ⟨rfl, rfl⟩
  go_wp2_with fail
  refine (of_any _ _ _).mono ?_
  rintro e w' ⟨rfl, rfl⟩
  go_wp2_with fail
  refine (meet_no 1 3 4 5 _ (okB_intro (by omega) (by omega) (by omega)) (okB_intro (by omega) (by omega) (by omega)) (by omega)).mono ?_
  rintro e w' ⟨rfl, rfl⟩
  go_wp2_with fail
  refine (of_any _ _ _).mono ?_
  rintro e w' ⟨rfl, rfl⟩
  go_wp2_with fail
  refine (of_any _ _ _).mono ?_
  rintro e w' ⟨rfl, rfl⟩
  go_wp2_with fail
  refine (meet_is 1 4 4 5 4 4 _ (okB_intro (by omega) (by omega) (by omega)) (okB_intro (by omega) (by omega) (by omega)) (by omega) (by omega) (okB_intro (by omega) (by omega) (by omega))).mono ?_
  rintro e w' ⟨rfl, rfl⟩
  go_wp2_with fail
  refine (drift_is 0 5 0 0 _ (by decide) (by decide) (by decide)).mono ?_
  rintro e w1 ⟨rfl, hb⟩
  have HB1 := Lib.hid (hb)
  clear hb
  go_wp2_with fail
  refine (drift_not 1073741825 0 _ (by decide)).mono ?_
  rintro e w2 ⟨rfl, hb⟩
  have HB2 := Lib.hid (below_below HB1.out HB1.out.size hb)
  clear hb
  go_wp2_with fail
  refine (drift_not 5 501 _ (by decide)).mono ?_
  rintro e w3 ⟨rfl, hb⟩
  have HB3 := Lib.hid (below_below HB2.out HB2.out.size hb)
  clear hb
  go_wp2_with fail
  refine (of_any _ _ _).mono ?_
  rintro e w' ⟨rfl, rfl⟩
  go_wp2_with fail
  refine (of_any _ _ _).mono ?_
  rintro e w' ⟨rfl, rfl⟩
  go_wp2_with fail
  refine (add_not 1099511627776 1099511627776 0 1 _ (okB_intro (by omega) (by omega) (by omega)) (okB_intro (by omega) (by omega) (by omega)) (by decide)).mono ?_
  rintro e w' ⟨rfl, rfl⟩
  go_wp2_with fail
  refine (parts_half _ _).mono ?_
  rintro e w' ⟨rfl, rfl⟩
  go_upto_region 8 with fail
  refine wp_region_lit ?_
  simp only [List.append_eq, List.cons_append, List.nil_append]
  go_wp2_with fail
  refine (of_any _ _ _).mono ?_
  rintro e w' ⟨rfl, rfl⟩
  go_wp2_with fail
  refine (right_is 3 1 false _ (fits (by omega) (by omega)) (fits (by omega) (by omega)) (by decide)).mono ?_
  rintro e w' ⟨rfl, rfl⟩
  go_wp2_with fail
  refine (of_any _ _ _).mono ?_
  rintro e w' ⟨rfl, rfl⟩
  go_wp2_with fail
  refine (right_is (-1099511627776) 1099511627776 true _ (fits (by omega) (by omega)) (fits (by omega) (by omega)) (by decide)).mono ?_
  rintro e w' ⟨rfl, rfl⟩
  go_wp2_with fail
  refine (of_any _ _ _).mono ?_
  rintro e w' ⟨rfl, rfl⟩
  go_wp2_with fail
  refine (right_is 0 1099511627777 false _ (fits (by omega) (by omega)) (fits (by omega) (by omega)) (by decide)).mono ?_
  rintro e w' ⟨rfl, rfl⟩
  go_wp2_with fail
  refine (of_any _ _ _).mono ?_
  rintro e w' ⟨rfl, rfl⟩
  go_wp2_with fail
  refine (of_any _ _ _).mono ?_
  rintro e w' ⟨rfl, rfl⟩
  go_wp2_with fail
  refine (before_yes 1 2 3 4 _ (okB_intro (by omega) (by omega) (by omega)) (okB_intro (by omega) (by omega) (by omega)) (by omega)).mono ?_
  rintro e w' ⟨rfl, rfl⟩
  go_wp2_with fail
  refine (of_any _ _ _).mono ?_
  rintro e w' ⟨rfl, rfl⟩
  go_wp2_with fail
  refine (of_any _ _ _).mono ?_
  rintro e w' ⟨rfl, rfl⟩
  go_wp2_with fail
  refine (before_no 1 3 3 4 _ (okB_intro (by omega) (by omega) (by omega)) (okB_intro (by omega) (by omega) (by omega)) (by omega)).mono ?_
  rintro e w' ⟨rfl, rfl⟩
  go_wp2_with fail
  refine (of_any _ _ _).mono ?_
  rintro e w' ⟨rfl, rfl⟩
  go_wp2_with fail
  refine (of_any _ _ _).mono ?_
  rintro e w' ⟨rfl, rfl⟩
  go_wp2_with fail
  refine (inside_yes 2 3 1 3 _ (okB_intro (by omega) (by omega) (by omega)) (okB_intro (by omega) (by omega) (by omega)) (by omega) (by omega)).mono ?_
  rintro e w' ⟨rfl, rfl⟩
  go_wp2_with fail
  refine (of_any _ _ _).mono ?_
  rintro e w' ⟨rfl, rfl⟩
  go_wp2_with fail
  refine (of_any _ _ _).mono ?_
  rintro e w' ⟨rfl, rfl⟩
  go_wp2_with fail
  refine (hull_is 1 2 5 9 1 9 _ (okB_intro (by omega) (by omega) (by omega)) (okB_intro (by omega) (by omega) (by omega)) (by omega) (by omega)).mono ?_
  rintro e w' ⟨rfl, rfl⟩
  go_wp2_with fail
  refine (known3_any _).mono ?_
  rintro e w4 ⟨rfl, hb⟩
  have HB4 := Lib.hid (below_below HB3.out HB3.out.size hb)
  clear hb
  go_wp2_with fail
  go_ret
  exact ⟨rfl, HB4.out⟩

end Go.Proofs.Ytkpkimhpecbkoaa
