/-
  The walks of package span: Of, Add, Sub, Meet, Before, Hull, Within, Drift; the reference's Of and Drift; known.
-/
import Derived.Test.YtkpkimhpecbkoaaSpan
set_option linter.unusedVariables false
set_option linter.unusedSimpArgs false
namespace Go.Proofs.Ytkpkimhpecbkoaa
open Go.RowKit

set_option maxHeartbeats 1000000 in
theorem of_any (a b : Int) (w : World) : Calls Try.prog 16 #[.int .i64 a, .int .i64 b] w fun e w' => e = .returned (.complex .f64 (fl a) (fl b)) ∧ w = w' := by
  have u1 := Try.underlying3
  have u2 := Try.underlying70
  go_enter Try.func16, Try.ntmps16
  go_wp2_with fail
  go_ret
  exact ⟨rfl, rfl⟩

set_option maxHeartbeats 1000000 in
theorem refOf_any (a b : Int) (w : World) : Calls Try.prog 17 #[.int .i64 a, .int .i64 b] w fun e w' => e = .returned (.complex .f64 (fl a) (fl b)) ∧ w = w' := by
  have u1 := Try.underlying3
  have u2 := Try.underlying70
  go_enter Try.func17, Try.ntmps17
  go_wp2_with fail
  go_ret
  exact ⟨rfl, rfl⟩

set_option maxHeartbeats 1000000 in
theorem add_any (a b c d : Int) (w : World) (ha : Fit a) (hb : Fit b) (hc : Fit c) (hd : Fit d) :
    Calls Try.prog 20 #[.complex .f64 (fl a) (fl b), .complex .f64 (fl c) (fl d)] w fun e w' => e = .returned (spIf (okB a b && okB c d && okB (a + c) (b + d)) (a + c) (b + d)) ∧ w = w' := by
  have h1 := fun w => run_cadd_fl (P := Try.prog) 23 ha hb hc hd w
  have HS := Lib.hid (sum_fit (a := a) (b := b) (c := c) (d := d))
  cases hq : (okB a b && okB c d && okB (a + c) (b + d))
  all_goals
    first | rw [spIf_false] | rw [spIf_true]
    have HQ := Lib.hid hq
    clear hq
    go_enter Try.func20, Try.ntmps20
    go_wp2_with fail
    refine (both_any a b c d _ ha hb hc hd).mono ?_
    rintro e w' ⟨rfl, rfl⟩
    go_wp2_with fail
    refine (some_any (a + c) (b + d) _ _ HS.out).mono ?_
    rw [HQ.out]
    first | rw [spIf_false] | rw [spIf_true]
    rintro e w' ⟨rfl, rfl⟩
    go_wp2_with fail
    go_ret2
    exact ⟨rfl, rfl⟩

set_option maxHeartbeats 1000000 in
theorem sub_any (a b c d : Int) (w : World) (ha : Fit a) (hb : Fit b) (hc : Fit c) (hd : Fit d) :
    Calls Try.prog 21 #[.complex .f64 (fl a) (fl b), .complex .f64 (fl c) (fl d)] w fun e w' => e = .returned (spIf (okB a b && okB c d && okB (a - d) (b - c)) (a - d) (b - c)) ∧ w = w' := by
  have h1 := fun w => run_sub_fl (P := Try.prog) 70 ha hd w
  have h2 := fun w => run_sub_fl (P := Try.prog) 70 hb hc w
  have HS := Lib.hid (diff_fit (a := a) (b := b) (c := c) (d := d))
  cases hq : (okB a b && okB c d && okB (a - d) (b - c))
  all_goals
    first | rw [spIf_false] | rw [spIf_true]
    have HQ := Lib.hid hq
    clear hq
    go_enter Try.func21, Try.ntmps21
    go_wp2_with fail
    refine (both_any a b c d _ ha hb hc hd).mono ?_
    rintro e w' ⟨rfl, rfl⟩
    go_wp2_with fail
    refine (some_any (a - d) (b - c) _ _ HS.out).mono ?_
    rw [HQ.out]
    first | rw [spIf_false] | rw [spIf_true]
    rintro e w' ⟨rfl, rfl⟩
    go_wp2_with fail
    go_ret2
    exact ⟨rfl, rfl⟩

set_option maxHeartbeats 1000000 in
theorem meet_any (a b c d : Int) (w : World) (ha : Fit a) (hb : Fit b) (hc : Fit c) (hd : Fit d) :
    Calls Try.prog 22 #[.complex .f64 (fl a) (fl b), .complex .f64 (fl c) (fl d)] w fun e w' => e = .returned (spIf (okB a b && okB c d && okB (max a c) (min b d)) (max a c) (min b d)) ∧ w = w' := by
  have h1 := fun ts w => run_max_fl (P := Try.prog) ts 70 ha hc w
  have h2 := fun ts w => run_min_fl (P := Try.prog) ts 70 hb hd w
  have hx := ha.mx hc
  have hn := hb.mn hd
  generalize max a c = x at *
  generalize min b d = y at *
  cases hq : (okB a b && okB c d && okB x y)
  all_goals
    first | rw [spIf_false] | rw [spIf_true]
    have HQ := Lib.hid hq
    clear hq
    go_enter Try.func22, Try.ntmps22
    go_wp2_with fail
    refine (both_any a b c d _ ha hb hc hd).mono ?_
    rintro e w' ⟨rfl, rfl⟩
    go_wp2_with fail
    refine (some_any x y _ _ (.inl ⟨hx, hn⟩)).mono ?_
    rw [HQ.out]
    first | rw [spIf_false] | rw [spIf_true]
    rintro e w' ⟨rfl, rfl⟩
    go_wp2_with fail
    go_ret2
    exact ⟨rfl, rfl⟩

set_option maxHeartbeats 1000000 in
theorem before_any (a b c d : Int) (w : World) (ha : Fit a) (hb : Fit b) (hc : Fit c) (hd : Fit d) :
    Calls Try.prog 23 #[.complex .f64 (fl a) (fl b), .complex .f64 (fl c) (fl d)] w fun e w' => e = .returned (.bool (okB a b && okB c d && decide (b < c))) ∧ w = w' := by
  have h1 := lt_b hb hc
  generalize decide (b < c) = q at *
  have HB := fun w => both_any a b c d w ha hb hc hd
  generalize (okB a b && okB c d) = r at *
  cases r
  · rw [Bool.false_and]
    go_enter Try.func23, Try.ntmps23
    go_wp2_with fail
    refine (HB _).mono ?_
    rintro e w' ⟨rfl, rfl⟩
    go_wp2_with fail
    go_ret
    exact ⟨rfl, rfl⟩
  · rw [Bool.true_and]
    go_enter Try.func23, Try.ntmps23
    go_wp2_with fail
    refine (HB _).mono ?_
    rintro e w' ⟨rfl, rfl⟩
    go_wp2_with fail
    go_ret
    exact ⟨rfl, rfl⟩

set_option maxHeartbeats 1000000 in
theorem hull_any (a b c d : Int) (w : World) (h1 : okB a b = true) (h2 : okB c d = true) :
    Calls Try.prog 24 #[.complex .f64 (fl a) (fl b), .complex .f64 (fl c) (fl d)] w fun e w' => e = .returned (.complex .f64 (fl (min a c)) (fl (max b d))) ∧ w = w' := by
  obtain ⟨ha, hb⟩ := okB_fit h1
  obtain ⟨hc, hd⟩ := okB_fit h2
  have e1 := fun ts w => run_min_fl (P := Try.prog) ts 70 ha hc w
  have e2 := fun ts w => run_max_fl (P := Try.prog) ts 70 hb hd w
  have H1 := Lib.hid h1
  have H2 := Lib.hid h2
  clear h1 h2
  generalize min a c = x at *
  generalize max b d = y at *
  go_enter Try.func24, Try.ntmps24
  go_wp2_with fail
  refine (both_any a b c d _ ha hb hc hd).mono ?_
  rw [H1.out, H2.out]
  rintro e w' ⟨rfl, rfl⟩
  go_wp2_with fail
  go_ret
  exact ⟨rfl, rfl⟩

set_option maxHeartbeats 1000000 in
theorem spWithin_any (a b c d : Int) (w : World) (ha : Fit a) (hb : Fit b) (hc : Fit c) (hd : Fit d) :
    Calls Try.prog 19 #[.complex .f64 (fl a) (fl b), .complex .f64 (fl c) (fl d)] w fun e w' => e = .returned (.bool (okB a b && okB c d && decide (c ≤ a) && decide (b ≤ d))) ∧ w = w' := by
  have h1 := le_b hc ha
  have h2 := le_b hb hd
  generalize decide (c ≤ a) = q at *
  generalize decide (b ≤ d) = t at *
  have HB := fun w => both_any a b c d w ha hb hc hd
  generalize (okB a b && okB c d) = r at *
  cases r
  · rw [Bool.false_and, Bool.false_and]
    clear h1 h2
    go_enter Try.func19, Try.ntmps19
    go_wp2_with fail
    refine (HB _).mono ?_
    rintro e w' ⟨rfl, rfl⟩
    go_wp2_with fail
    go_ret
    exact ⟨rfl, rfl⟩
  · cases q
    · rw [Bool.and_false, Bool.false_and]
      clear h2
      go_enter Try.func19, Try.ntmps19
      go_wp2_with fail
      refine (HB _).mono ?_
      rintro e w' ⟨rfl, rfl⟩
      go_wp2_with fail
      go_ret
      exact ⟨rfl, rfl⟩
    · rw [Bool.true_and, Bool.true_and]
      go_enter Try.func19, Try.ntmps19
      go_wp2_with fail
      refine (HB _).mono ?_
      rintro e w' ⟨rfl, rfl⟩
      go_wp2_with fail
      go_ret
      exact ⟨rfl, rfl⟩

/-- What a clock's drift gives. -/
def driftLo (dt rho : Int) : Int := dt * 1000 / (1000 + rho)
def driftHi (dt rho : Int) : Int := (dt * 1000 + (1000 - rho) - 1) / (1000 - rho)
def driftB (dt rho : Int) : Bool := decide (0 ≤ dt ∧ dt ≤ 1073741824 ∧ 0 ≤ rho ∧ rho ≤ 500)

set_option maxHeartbeats 1000000 in
theorem of_q (a b : Int) (w : World) : Calls Try.prog 16 #[.int .i64 a, .int .i64 b] w fun e w' => e = .returned (.complex .f64 (fl a) (fl b)) ∧ w' = w :=
  (of_any a b w).mono fun _ _ ⟨h1, h2⟩ => ⟨h1, h2.symm⟩
set_option maxHeartbeats 1000000 in
theorem drift_any (dt rho : Int) (w : World) :
    Calls Try.prog 14 #[.int .i64 dt, .int .i64 rho] w fun e w' => e = .returned (spIf (driftB dt rho) (driftLo dt rho) (driftHi dt rho)) ∧ Below w.heap.size w w' := by
  by_cases h1 : 0 ≤ dt
  · by_cases h2 : dt ≤ 1073741824
    · by_cases h3 : 0 ≤ rho
      · by_cases h4 : rho ≤ 500
        · rw [show driftB dt rho = true by simp [driftB]; omega, spIf_true]
          unfold driftLo driftHi
          go_enter Try.func14, Try.ntmps14
          go_upto_region 4 with fail
          go_quiet ((go_at_call 16; exact Calls.quiet_of_same (of_q _ _ _)))
          go_wp2_with fail
          go_ret2
          exact ⟨rfl, ⟨rfl, rfl, rfl, Nat.le_refl _, fun _ _ => rfl⟩⟩
        · rw [show driftB dt rho = false by simp [driftB]; omega, spIf_false]
          go_enter Try.func14, Try.ntmps14
          go_wp2_with fail
          go_ret2
          exact ⟨rfl, Below.refl _ _⟩
      · rw [show driftB dt rho = false by simp [driftB]; omega, spIf_false]
        go_enter Try.func14, Try.ntmps14
        go_wp2_with fail
        go_ret2
        exact ⟨rfl, Below.refl _ _⟩
    · rw [show driftB dt rho = false by simp [driftB]; omega, spIf_false]
      go_enter Try.func14, Try.ntmps14
      go_wp2_with fail
      go_ret2
      exact ⟨rfl, Below.refl _ _⟩
  · rw [show driftB dt rho = false by simp [driftB]; omega, spIf_false]
    go_enter Try.func14, Try.ntmps14
    go_wp2_with fail
    go_ret2
    exact ⟨rfl, Below.refl _ _⟩

set_option maxHeartbeats 1000000 in
theorem refDrift_any (dt rho : Int) (w : World) :
    Calls Try.prog 15 #[.int .i64 dt, .int .i64 rho] w fun e w' => e = .returned (spIf (driftB dt rho) (driftLo dt rho) (driftHi dt rho)) ∧ w = w' := by
  by_cases h1 : 0 ≤ dt
  · by_cases h2 : dt ≤ 1073741824
    · by_cases h3 : 0 ≤ rho
      · by_cases h4 : rho ≤ 500
        · rw [show driftB dt rho = true by simp [driftB]; omega, spIf_true]
          unfold driftLo driftHi
          rw [show dt * 1000 + (1000 - rho) - 1 = dt * 1000 + 1000 - rho - 1 by omega]
          go_enter Try.func15, Try.ntmps15
          go_wp2_with fail
          refine (refOf_any _ _ _).mono ?_
          rintro e w' ⟨rfl, rfl⟩
          go_wp2_with fail
          go_ret2
          exact ⟨rfl, rfl⟩
        · rw [show driftB dt rho = false by simp [driftB]; omega, spIf_false]
          go_enter Try.func15, Try.ntmps15
          go_wp2_with fail
          go_ret2
          exact ⟨rfl, rfl⟩
      · rw [show driftB dt rho = false by simp [driftB]; omega, spIf_false]
        go_enter Try.func15, Try.ntmps15
        go_wp2_with fail
        go_ret2
        exact ⟨rfl, rfl⟩
    · rw [show driftB dt rho = false by simp [driftB]; omega, spIf_false]
      go_enter Try.func15, Try.ntmps15
      go_wp2_with fail
      go_ret2
      exact ⟨rfl, rfl⟩
  · rw [show driftB dt rho = false by simp [driftB]; omega, spIf_false]
    go_enter Try.func15, Try.ntmps15
    go_wp2_with fail
    go_ret2
    exact ⟨rfl, rfl⟩

theorem fits {a : Int} (h0 : -1125899906842623 ≤ a) (h1 : a ≤ 1125899906842623) : Fit a := Fit.of h0 h1

set_option maxHeartbeats 2000000 in
theorem known3_any (w : World) : Calls Try.prog 18 #[] w fun e w' => e = .returned (.bool true) ∧ Below w.heap.size w w' := by
  have k1 : (FloatKind.f64.format.order (fl 11) 4622382067542392832 == some .eq) = true := by decide
  have k2 : (FloatKind.f64.format.order (fl 23) 4627167142146473984 == some .eq) = true := by decide
  have k3 : (FloatKind.f64.format.order (fl 7) 4619567317775286272 == some .eq) = true := by decide
  have k4 : (FloatKind.f64.format.order (fl 19) 4626041242239631360 == some .eq) = true := by decide
  have k5 : (FloatKind.f64.format.order (fl 90) 4636033603912859648 == some .eq) = true := by decide
  have k6 : (FloatKind.f64.format.order (fl 112) 4637581716284768256 == some .eq) = true := by decide
  go_enter Try.func18, Try.ntmps18
  go_wp2_with fail
  refine (of_any 1 3 _).mono ?_
  rintro e w' ⟨rfl, rfl⟩
  go_wp2_with fail
  refine (of_any 10 20 _).mono ?_
  rintro e w' ⟨rfl, rfl⟩
  go_wp2_with fail
  refine (add_any 1 3 10 20 _ (fits (by omega) (by omega)) (fits (by omega) (by omega)) (fits (by omega) (by omega)) (fits (by omega) (by omega))).mono ?_
  rw [show (okB 1 3 && okB 10 20 && okB (1 + 10) (3 + 20)) = true by decide, spIf_true, show (1 : Int) + 10 = 11 by decide, show (3 : Int) + 20 = 23 by decide]
  rintro e w' ⟨rfl, rfl⟩
  go_wp2_with fail
  refine (of_any 10 20 _).mono ?_
  rintro e w' ⟨rfl, rfl⟩
  go_wp2_with fail
  refine (of_any 1 3 _).mono ?_
  rintro e w' ⟨rfl, rfl⟩
  go_wp2_with fail
  refine (sub_any 10 20 1 3 _ (fits (by omega) (by omega)) (fits (by omega) (by omega)) (fits (by omega) (by omega)) (fits (by omega) (by omega))).mono ?_
  rw [show (okB 10 20 && okB 1 3 && okB (10 - 3) (20 - 1)) = true by decide, spIf_true, show (10 : Int) - 3 = 7 by decide, show (20 : Int) - 1 = 19 by decide]
  rintro e w' ⟨rfl, rfl⟩
  go_wp2_with fail
  refine (drift_any 100 100 _).mono ?_
  rw [show driftB 100 100 = true by decide, spIf_true, show driftLo 100 100 = 90 by decide, show driftHi 100 100 = 112 by decide]
  rintro e w1 ⟨rfl, hb⟩
  have HB := Lib.hid hb
  clear hb
  go_wp2_with fail
  go_ret
  exact ⟨rfl, HB.out⟩

end Go.Proofs.Ytkpkimhpecbkoaa
