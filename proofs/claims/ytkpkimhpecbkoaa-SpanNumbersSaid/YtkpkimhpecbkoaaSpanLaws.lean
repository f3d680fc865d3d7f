/-
  The walks of the laws of layer 3.
-/
import Derived.Test.YtkpkimhpecbkoaaSpanOps
import Derived.Test.YtkpkimhpecbkoaaWithin
import Derived.Test.YtkpkimhpecbkoaaMem
import Derived.Deep.CutBlock
set_option linter.unusedVariables false
set_option linter.unusedSimpArgs false
namespace Go.Proofs.Ytkpkimhpecbkoaa
open Go.RowKit

theorem within_ex (n lo hi : Int) (w : World) (h1 : lo ≤ hi) (h0 : -4611686018427387904 ≤ lo) (h2 : hi ≤ 4611686018427387000) (hd : hi - lo ≤ 4611686018427387000) :
    Calls Try.prog 13 #[.int .i64 n, .int .i64 lo, .int .i64 hi] w fun e w' => ∃ r : Int, lo ≤ r ∧ r ≤ hi ∧ e = .returned (.int .i64 r) ∧ w = w' :=
  (within_any n lo hi w h1 h0 h2 hd).mono fun _ _ ⟨he, hw⟩ => ⟨_, (withinOf_range n lo hi h1).1, (withinOf_range n lo hi h1).2, he, hw⟩

theorem driftB_fit {dt rho : Int} (h : driftB dt rho = true) : Fit (driftLo dt rho) ∧ Fit (driftHi dt rho) := by
  simp only [driftB, decide_eq_true_eq] at h
  obtain ⟨h1, h2, h3, h4⟩ := h
  unfold driftLo driftHi
  have a1 : 0 ≤ dt * 1000 / (1000 + rho) := Int.ediv_nonneg (by omega) (by omega)
  have a2 : dt * 1000 / (1000 + rho) ≤ dt * 1000 := Int.ediv_le_self _ (by omega)
  have b1 : 0 ≤ (dt * 1000 + (1000 - rho) - 1) / (1000 - rho) := Int.ediv_nonneg (by omega) (by omega)
  have b2 : (dt * 1000 + (1000 - rho) - 1) / (1000 - rho) ≤ dt * 1000 + (1000 - rho) - 1 := Int.ediv_le_self _ (by omega)
  exact ⟨fits (by omega) (by omega), fits (by omega) (by omega)⟩

section
variable (a b c d : Int) (w : World)
theorem add_yes (h1 : okB a b = true) (h2 : okB c d = true) (h3 : okB (a + c) (b + d) = true) :
    Calls Try.prog 20 #[.complex .f64 (fl a) (fl b), .complex .f64 (fl c) (fl d)] w fun e w' => e = .returned (.tuple #[.complex .f64 (fl (a + c)) (fl (b + d)), .bool true]) ∧ w = w' := by
  have h := add_any a b c d w (okB_fit h1).1 (okB_fit h1).2 (okB_fit h2).1 (okB_fit h2).2
  rw [h1, h2, h3] at h
  exact h
theorem sub_yes (h1 : okB a b = true) (h2 : okB c d = true) (h3 : okB (a - d) (b - c) = true) :
    Calls Try.prog 21 #[.complex .f64 (fl a) (fl b), .complex .f64 (fl c) (fl d)] w fun e w' => e = .returned (.tuple #[.complex .f64 (fl (a - d)) (fl (b - c)), .bool true]) ∧ w = w' := by
  have h := sub_any a b c d w (okB_fit h1).1 (okB_fit h1).2 (okB_fit h2).1 (okB_fit h2).2
  rw [h1, h2, h3] at h
  exact h
theorem meet_yes (h1 : okB a b = true) (h2 : okB c d = true) (h3 : okB (max a c) (min b d) = true) :
    Calls Try.prog 22 #[.complex .f64 (fl a) (fl b), .complex .f64 (fl c) (fl d)] w fun e w' => e = .returned (.tuple #[.complex .f64 (fl (max a c)) (fl (min b d)), .bool true]) ∧ w = w' := by
  have h := meet_any a b c d w (okB_fit h1).1 (okB_fit h1).2 (okB_fit h2).1 (okB_fit h2).2
  rw [h1, h2, h3] at h
  exact h
theorem meet_no (h1 : okB a b = true) (h2 : okB c d = true) (h3 : min b d < max a c) :
    Calls Try.prog 22 #[.complex .f64 (fl a) (fl b), .complex .f64 (fl c) (fl d)] w fun e w' => e = .returned (.tuple #[.complex .f64 0 0, .bool false]) ∧ w = w' := by
  have h := meet_any a b c d w (okB_fit h1).1 (okB_fit h1).2 (okB_fit h2).1 (okB_fit h2).2
  have h4 : okB (max a c) (min b d) = false := by
    unfold okB
    rw [decide_eq_false (by omega), Bool.and_false]
  rw [h1, h2, h4] at h
  exact h
theorem before_yes (h1 : okB a b = true) (h2 : okB c d = true) (h3 : b < c) :
    Calls Try.prog 23 #[.complex .f64 (fl a) (fl b), .complex .f64 (fl c) (fl d)] w fun e w' => e = .returned (.bool true) ∧ w = w' := by
  have h := before_any a b c d w (okB_fit h1).1 (okB_fit h1).2 (okB_fit h2).1 (okB_fit h2).2
  rw [h1, h2, decide_eq_true h3] at h
  exact h
theorem before_no (h1 : okB a b = true) (h2 : okB c d = true) (h3 : c ≤ b) :
    Calls Try.prog 23 #[.complex .f64 (fl a) (fl b), .complex .f64 (fl c) (fl d)] w fun e w' => e = .returned (.bool false) ∧ w = w' := by
  have h := before_any a b c d w (okB_fit h1).1 (okB_fit h1).2 (okB_fit h2).1 (okB_fit h2).2
  rw [h1, h2, decide_eq_false (by omega)] at h
  exact h
theorem inside_yes (h1 : okB a b = true) (h2 : okB c d = true) (h3 : c ≤ a) (h4 : b ≤ d) :
    Calls Try.prog 19 #[.complex .f64 (fl a) (fl b), .complex .f64 (fl c) (fl d)] w fun e w' => e = .returned (.bool true) ∧ w = w' := by
  have h := spWithin_any a b c d w (okB_fit h1).1 (okB_fit h1).2 (okB_fit h2).1 (okB_fit h2).2
  rw [h1, h2, decide_eq_true h3, decide_eq_true h4] at h
  exact h
end


set_option maxHeartbeats 2000000 in
theorem spanParts_any (a b dt rho : Int) (w : World) :
    Calls Try.prog 3 #[.int .i64 a, .int .i64 b, .int .i64 dt, .int .i64 rho] w fun e w' => e = .returned (.bool true) ∧ Below w.heap.size w w' := by
  go_enter Try.func3, Try.ntmps3
  go_wp2_with fail
  refine (within_ex a 0 2199023255561 _ (by omega) (by omega) (by omega) (by omega)).mono ?_
  rintro e w' ⟨A', A0, A1, rfl, rfl⟩
  go_wp2_with fail
  refine (within_ex b 0 2199023255561 _ (by omega) (by omega) (by omega) (by omega)).mono ?_
  rintro e w' ⟨B', B0, B1, rfl, rfl⟩
  go_wp2_with fail
  have a0 := eq_b (a := A' - 1099511627776 - 4) (b := A' - 1099511627776 - 4) (fits (by omega) (by omega)) (fits (by omega) (by omega))
  have b0 := eq_b (a := B' - 1099511627776 - 4) (b := B' - 1099511627776 - 4) (fits (by omega) (by omega)) (fits (by omega) (by omega))
  rw [decide_eq_true rfl] at a0 b0
  have k0 : (FloatKind.f64.format.order 0 0 == some .eq) = true := by decide
  have R1 := drift_any dt rho w
  have R2 := fun w => refDrift_any dt rho w
  cases hq : driftB dt rho
  · rw [hq, spIf_false] at R1
    have R3 := Lib.hid (fun w => by have h := R2 w; rw [hq, spIf_false] at h; exact h)
    clear R2 hq
    refine R1.mono ?_
    rintro e w1 ⟨rfl, hb⟩
    have HB1 := Lib.hid hb
    clear hb R1
    go_wp2_with fail
    refine (R3.out _).mono ?_
    rintro e w' ⟨rfl, rfl⟩
    go_wp2_with fail
    refine (of_any _ _ _).mono ?_
    rintro e w' ⟨rfl, rfl⟩
    go_wp2_with fail
    refine (refOf_any _ _ _).mono ?_
    rintro e w' ⟨rfl, rfl⟩
    go_wp2_with fail
    refine (known3_any _).mono ?_
    rintro e w2 ⟨rfl, hb⟩
    have HB := Lib.hid (below_below HB1.out HB1.out.size hb)
    clear hb
    go_wp2_with fail
    go_ret
    exact ⟨rfl, HB.out⟩
  · rw [hq, spIf_true] at R1
    have R3 := Lib.hid (fun w => by have h := R2 w; rw [hq, spIf_true] at h; exact h)
    obtain ⟨f1, f2⟩ := driftB_fit hq
    have q1 := eq_b f1 f1
    have q2 := eq_b f2 f2
    rw [decide_eq_true rfl] at q1 q2
    clear R2 hq k0
    generalize driftLo dt rho = lo at *
    generalize driftHi dt rho = hi at *
    refine R1.mono ?_
    rintro e w1 ⟨rfl, hb⟩
    have HB1 := Lib.hid hb
    clear hb R1
    go_wp2_with fail
    refine (R3.out _).mono ?_
    rintro e w' ⟨rfl, rfl⟩
    go_wp2_with fail
    refine (of_any _ _ _).mono ?_
    rintro e w' ⟨rfl, rfl⟩
    go_wp2_with fail
    refine (refOf_any _ _ _).mono ?_
    rintro e w' ⟨rfl, rfl⟩
    go_wp2_with fail
    refine (known3_any _).mono ?_
    rintro e w2 ⟨rfl, hb⟩
    have HB := Lib.hid (below_below HB1.out HB1.out.size hb)
    clear hb
    go_wp2_with fail
    go_ret
    exact ⟨rfl, HB.out⟩

theorem dt_lo (k rate rho : Int) (h0 : 0 ≤ k) (hr : 0 ≤ rho) (h1 : rate ≤ rho) : k * (1000 + rate) * 1000 / (1000 + rho) ≤ k * 1000 := by
  have h : k * (1000 + rate) ≤ k * (1000 + rho) := Int.mul_le_mul_of_nonneg_left (by omega) h0
  refine Int.le_of_lt_add_one (Int.ediv_lt_of_lt_mul (by omega) ?_)
  have e : (k * 1000 + 1) * (1000 + rho) = k * (1000 + rho) * 1000 + (1000 + rho) := by rw [Int.add_mul, Int.one_mul, Int.mul_assoc, Int.mul_comm 1000, ← Int.mul_assoc]
  omega
theorem dt_hi (k rate rho : Int) (h0 : 0 ≤ k) (hr : 0 ≤ rho) (hr2 : rho ≤ 500) (h1 : -rho ≤ rate) : k * 1000 ≤ (k * (1000 + rate) * 1000 + (1000 - rho) - 1) / (1000 - rho) := by
  have h : k * (1000 - rho) ≤ k * (1000 + rate) := Int.mul_le_mul_of_nonneg_left (by omega) h0
  refine (Int.le_ediv_iff_mul_le (by omega)).2 ?_
  have e : k * 1000 * (1000 - rho) = k * (1000 - rho) * 1000 := by rw [Int.mul_assoc, Int.mul_comm 1000, ← Int.mul_assoc]
  omega
theorem drift_bounds (dt rho : Int) (h : driftB dt rho = true) : 0 ≤ driftLo dt rho ∧ driftLo dt rho ≤ 1073741824000 ∧ 0 ≤ driftHi dt rho ∧ driftHi dt rho ≤ 1099511627776 := by
  simp only [driftB, decide_eq_true_eq] at h
  obtain ⟨h1, h2, h3, h4⟩ := h
  unfold driftLo driftHi
  have a1 : 0 ≤ dt * 1000 / (1000 + rho) := Int.ediv_nonneg (by omega) (by omega)
  have a2 : dt * 1000 / (1000 + rho) ≤ dt * 1000 := Int.ediv_le_self _ (by omega)
  have b1 : 0 ≤ (dt * 1000 + (1000 - rho) - 1) / (1000 - rho) := Int.ediv_nonneg (by omega) (by omega)
  have b2 : (dt * 1000 + (1000 - rho) - 1) / (1000 - rho) ≤ dt * 1000 + (1000 - rho) - 1 := Int.ediv_le_self _ (by omega)
  omega

set_option maxHeartbeats 2000000 in
theorem spanDrift_any (rt rate rho : Int) (w : World) :
    Calls Try.prog 4 #[.int .i64 rt, .int .i64 rate, .int .i64 rho] w fun e w' => e = .returned (.bool true) ∧ Below w.heap.size w w' := by
  go_enter Try.func4, Try.ntmps4
  go_wp2_with fail
  refine (within_ex rho 0 500 _ (by omega) (by omega) (by omega) (by omega)).mono ?_
  rintro e w' ⟨RHO', RHO0, RHO1, rfl, rfl⟩
  go_wp2_with fail
  refine (within_ex rate 0 _ _ (by omega) (by omega) (by omega) (by omega)).mono ?_
  rintro e w' ⟨R', R0, R1, rfl, rfl⟩
  go_wp2_with fail
  refine (within_ex rt 0 1000000 _ (by omega) (by omega) (by omega) (by omega)).mono ?_
  rintro e w' ⟨K', K0, K1, rfl, rfl⟩
  obtain ⟨rt', hrt⟩ : ∃ rt', rt' = R' - RHO' := ⟨_, rfl⟩
  have g1 : K' * 1000 / 1000 = K' := by omega
  have p1 : 0 ≤ K' * (1000 + (R' - RHO')) := Int.mul_nonneg K0 (by omega)
  have p2 : K' * (1000 + (R' - RHO')) ≤ 1000000 * (1000 + (R' - RHO')) := Int.mul_le_mul_of_nonneg_right K1 (by omega)
  obtain ⟨D, hD⟩ : ∃ D, D = K' * (1000 + (R' - RHO')) := ⟨_, rfl⟩
  have d1 : driftLo D RHO' ≤ K' * 1000 := by rw [hD]; exact dt_lo K' (R' - RHO') RHO' K0 RHO0 (by omega)
  have d2 : K' * 1000 ≤ driftHi D RHO' := by rw [hD]; exact dt_hi K' (R' - RHO') RHO' K0 RHO0 RHO1 (by omega)
  rw [← hD] at p1 p2
  have g0 : 0 ≤ K' * 1000 := by omega
  have g2 : K' * 1000 ≤ 1000000000 := by omega
  clear hrt
  go_upto_region 5 with fail
  rw [← hD]
  clear hD
  generalize K' * 1000 = T at *
  by_cases hgt : 1073741824 < D
  · go_wp2_with fail
    refine (known3_any _).mono ?_
    rintro e w1 ⟨rfl, hb⟩
    have HB := Lib.hid hb
    clear hb
    go_wp2_with fail
    go_ret
    exact ⟨rfl, HB.out⟩
  · have hq : driftB D RHO' = true := by simp [driftB]; omega
    have R1 := fun w => drift_any D RHO' w
    have hb := drift_bounds D RHO' hq
    rw [hq] at R1
    simp only [spIf_true] at R1
    generalize driftLo D RHO' = lo at *
    generalize driftHi D RHO' = hi at *
    have R2 := Lib.hid R1
    clear R1 hq
    go_wp2_with fail
    refine (R2.out _).mono ?_
    rintro e w1 ⟨rfl, hb1⟩
    have HB1 := Lib.hid hb1
    clear hb1
    go_wp2_with fail
    refine (of_any _ _ _).mono ?_
    rintro e w' ⟨rfl, rfl⟩
    go_wp2_with fail
    refine (inside_yes T T lo hi _ (okB_intro (by omega) (by omega) (by omega)) (okB_intro (by omega) (by omega) (by omega)) (by omega) (by omega)).mono ?_
    rintro e w' ⟨rfl, rfl⟩
    go_wp2_with fail
    refine (known3_any _).mono ?_
    rintro e w2 ⟨rfl, hb⟩
    have HB := Lib.hid (below_below HB1.out HB1.out.size hb)
    clear hb
    go_wp2_with fail
    go_ret
    exact ⟨rfl, HB.out⟩

end Go.Proofs.Ytkpkimhpecbkoaa
