/-
  The walk of the law SpanSound.
-/
import Derived.Test.YtkpkimhpecbkoaaSpanLaws
set_option linter.unusedVariables false
set_option linter.unusedSimpArgs false
namespace Go.Proofs.Ytkpkimhpecbkoaa
open Go.RowKit

set_option maxRecDepth 100000 in
set_option maxHeartbeats 8000000 in
theorem spanSound_any (a b c d x y : Int) (w : World) :
    Calls Try.prog 5 #[.int .i64 a, .int .i64 b, .int .i64 c, .int .i64 d, .int .i64 x, .int .i64 y] w fun e w' => e = .returned (.bool true) ∧ Below w.heap.size w w' := by
  go_enter Try.func5, Try.ntmps5
  go_wp2_with fail
  refine (within_ex a 0 2000 _ (by omega) (by omega) (by omega) (by omega)).mono ?_
  rintro e w' ⟨A', A0, A1, rfl, rfl⟩
  go_wp2_with fail
  refine (within_ex c 0 2000 _ (by omega) (by omega) (by omega) (by omega)).mono ?_
  rintro e w' ⟨C', C0, C1, rfl, rfl⟩
  go_wp2_with fail
  refine (within_ex b 0 500 _ (by omega) (by omega) (by omega) (by omega)).mono ?_
  rintro e w' ⟨B', B0, B1, rfl, rfl⟩
  go_wp2_with fail
  refine (within_ex d 0 500 _ (by omega) (by omega) (by omega) (by omega)).mono ?_
  rintro e w' ⟨D', D0, D1, rfl, rfl⟩
  have a0 : -1000 ≤ A' - 1000 := by omega
  have a1 : A' - 1000 ≤ 1000 := by omega
  have c0 : -1000 ≤ C' - 1000 := by omega
  have c1 : C' - 1000 ≤ 1000 := by omega
  generalize A' - 1000 = p at *
  generalize C' - 1000 = r at *
  clear A0 A1 C0 C1
  go_wp2_with fail
  refine (within_ex x 0 _ _ (by omega) (by omega) (by omega) (by omega)).mono ?_
  rintro e w' ⟨X', X0, X1, rfl, rfl⟩
  go_wp2_with fail
  refine (within_ex y 0 _ _ (by omega) (by omega) (by omega) (by omega)).mono ?_
  rintro e w' ⟨Y', Y0, Y1, rfl, rfl⟩
  go_upto_region 7 with fail
  have b0 : p ≤ p + B' := by omega
  have b1 : p + B' ≤ p + 500 := by omega
  have d0 : r ≤ r + D' := by omega
  have d1 : r + D' ≤ r + 500 := by omega
  have x0 : p ≤ p + X' := by omega
  have x1 : p + X' ≤ p + B' := by omega
  have y0 : r ≤ r + Y' := by omega
  have y1 : r + Y' ≤ r + D' := by omega
  clear B0 B1 D0 D1 X0 X1 Y0 Y1
  generalize p + B' = q at *
  generalize r + D' = s at *
  generalize p + X' = x' at *
  generalize r + Y' = y' at *
  by_cases h1 : q < r
  · have i1 : ¬ r ≤ x' := by omega
    go_wp2_with fail
    refine (of_any _ _ _).mono ?_
    rintro e w' ⟨rfl, rfl⟩
    go_wp2_with fail
    refine (of_any _ _ _).mono ?_
    rintro e w' ⟨rfl, rfl⟩
    go_wp2_with fail
    refine (add_yes p q r s _ (okB_intro (by omega) (by omega) (by omega)) (okB_intro (by omega) (by omega) (by omega)) (okB_intro (by omega) (by omega) (by omega))).mono ?_
    rintro e w' ⟨rfl, rfl⟩
    go_wp2_with fail
    refine (of_any _ _ _).mono ?_
    rintro e w' ⟨rfl, rfl⟩
    go_wp2_with fail
    refine (of_any _ _ _).mono ?_
    rintro e w' ⟨rfl, rfl⟩
    go_wp2_with fail
    refine (sub_yes p q r s _ (okB_intro (by omega) (by omega) (by omega)) (okB_intro (by omega) (by omega) (by omega)) (okB_intro (by omega) (by omega) (by omega))).mono ?_
    rintro e w' ⟨rfl, rfl⟩
    go_wp2_with fail
    refine (of_any _ _ _).mono ?_
    rintro e w' ⟨rfl, rfl⟩
    go_wp2_with fail
    refine (of_any _ _ _).mono ?_
    rintro e w' ⟨rfl, rfl⟩
    go_wp2_with fail
    refine (meet_no p q r s _ (okB_intro (by omega) (by omega) (by omega)) (okB_intro (by omega) (by omega) (by omega)) (by omega)).mono ?_
    rintro e w' ⟨rfl, rfl⟩
    go_upto_region 11 with fail
    refine wp_region_lit ?_
    simp only [List.append_eq, List.cons_append, List.nil_append]
    go_wp2_with fail
    refine (of_any _ _ _).mono ?_
    rintro e w' ⟨rfl, rfl⟩
    go_wp2_with fail
    refine (inside_yes (x' + y') (x' + y') (p + r) (q + s) _ (okB_intro (by omega) (by omega) (by omega)) (okB_intro (by omega) (by omega) (by omega)) (by omega) (by omega)).mono ?_
    rintro e w' ⟨rfl, rfl⟩
    go_wp2_with fail
    refine (of_any _ _ _).mono ?_
    rintro e w' ⟨rfl, rfl⟩
    go_wp2_with fail
    refine (inside_yes (x' - y') (x' - y') (p - s) (q - r) _ (okB_intro (by omega) (by omega) (by omega)) (okB_intro (by omega) (by omega) (by omega)) (by omega) (by omega)).mono ?_
    rintro e w' ⟨rfl, rfl⟩
    go_wp2_with fail
    refine (of_any _ _ _).mono ?_
    rintro e w' ⟨rfl, rfl⟩
    go_wp2_with fail
    refine (of_any _ _ _).mono ?_
    rintro e w' ⟨rfl, rfl⟩
    go_wp2_with fail
    refine (before_yes p q r s _ (okB_intro (by omega) (by omega) (by omega)) (okB_intro (by omega) (by omega) (by omega)) (by omega)).mono ?_
    rintro e w' ⟨rfl, rfl⟩
    go_wp2_with fail
    refine (of_any _ _ _).mono ?_
    rintro e w' ⟨rfl, rfl⟩
    go_wp2_with fail
    refine (of_any _ _ _).mono ?_
    rintro e w' ⟨rfl, rfl⟩
    go_wp2_with fail
    refine (of_any _ _ _).mono ?_
    rintro e w' ⟨rfl, rfl⟩
    go_wp2_with fail
    refine (hull_any p q r s _ (okB_intro (by omega) (by omega) (by omega)) (okB_intro (by omega) (by omega) (by omega))).mono ?_
    rintro e w' ⟨rfl, rfl⟩
    go_wp2_with fail
    refine (inside_yes p q (min p r) (max q s) _ (okB_intro (by omega) (by omega) (by omega)) (okB_intro (by omega) (by omega) (by omega)) (by omega) (by omega)).mono ?_
    rintro e w' ⟨rfl, rfl⟩
    go_wp2_with fail
    refine (known3_any _).mono ?_
    rintro e w1 ⟨rfl, hb⟩
    have HB := Lib.hid hb
    clear hb
    go_wp2_with fail
    go_ret
    exact ⟨rfl, HB.out⟩
  · by_cases h2 : s < p
    · have i1 : r ≤ x' := by omega
      have i2 : ¬ x' ≤ s := by omega
      go_wp2_with fail
      refine (of_any _ _ _).mono ?_
      rintro e w' ⟨rfl, rfl⟩
      go_wp2_with fail
      refine (of_any _ _ _).mono ?_
      rintro e w' ⟨rfl, rfl⟩
      go_wp2_with fail
      refine (add_yes p q r s _ (okB_intro (by omega) (by omega) (by omega)) (okB_intro (by omega) (by omega) (by omega)) (okB_intro (by omega) (by omega) (by omega))).mono ?_
      rintro e w' ⟨rfl, rfl⟩
      go_wp2_with fail
      refine (of_any _ _ _).mono ?_
      rintro e w' ⟨rfl, rfl⟩
      go_wp2_with fail
      refine (of_any _ _ _).mono ?_
      rintro e w' ⟨rfl, rfl⟩
      go_wp2_with fail
      refine (sub_yes p q r s _ (okB_intro (by omega) (by omega) (by omega)) (okB_intro (by omega) (by omega) (by omega)) (okB_intro (by omega) (by omega) (by omega))).mono ?_
      rintro e w' ⟨rfl, rfl⟩
      go_wp2_with fail
      refine (of_any _ _ _).mono ?_
      rintro e w' ⟨rfl, rfl⟩
      go_wp2_with fail
      refine (of_any _ _ _).mono ?_
      rintro e w' ⟨rfl, rfl⟩
      go_wp2_with fail
      refine (meet_no p q r s _ (okB_intro (by omega) (by omega) (by omega)) (okB_intro (by omega) (by omega) (by omega)) (by omega)).mono ?_
      rintro e w' ⟨rfl, rfl⟩
      go_upto_region 11 with fail
      refine wp_region_lit ?_
      simp only [List.append_eq, List.cons_append, List.nil_append]
      go_wp2_with fail
      refine (of_any _ _ _).mono ?_
      rintro e w' ⟨rfl, rfl⟩
      go_wp2_with fail
      refine (inside_yes (x' + y') (x' + y') (p + r) (q + s) _ (okB_intro (by omega) (by omega) (by omega)) (okB_intro (by omega) (by omega) (by omega)) (by omega) (by omega)).mono ?_
      rintro e w' ⟨rfl, rfl⟩
      go_wp2_with fail
      refine (of_any _ _ _).mono ?_
      rintro e w' ⟨rfl, rfl⟩
      go_wp2_with fail
      refine (inside_yes (x' - y') (x' - y') (p - s) (q - r) _ (okB_intro (by omega) (by omega) (by omega)) (okB_intro (by omega) (by omega) (by omega)) (by omega) (by omega)).mono ?_
      rintro e w' ⟨rfl, rfl⟩
      go_wp2_with fail
      refine (of_any _ _ _).mono ?_
      rintro e w' ⟨rfl, rfl⟩
      go_wp2_with fail
      refine (of_any _ _ _).mono ?_
      rintro e w' ⟨rfl, rfl⟩
      go_wp2_with fail
      refine (before_no p q r s _ (okB_intro (by omega) (by omega) (by omega)) (okB_intro (by omega) (by omega) (by omega)) (by omega)).mono ?_
      rintro e w' ⟨rfl, rfl⟩
      go_wp2_with fail
      refine (of_any _ _ _).mono ?_
      rintro e w' ⟨rfl, rfl⟩
      go_wp2_with fail
      refine (of_any _ _ _).mono ?_
      rintro e w' ⟨rfl, rfl⟩
      go_wp2_with fail
      refine (before_yes r s p q _ (okB_intro (by omega) (by omega) (by omega)) (okB_intro (by omega) (by omega) (by omega)) (by omega)).mono ?_
      rintro e w' ⟨rfl, rfl⟩
      go_wp2_with fail
      refine (of_any _ _ _).mono ?_
      rintro e w' ⟨rfl, rfl⟩
      go_wp2_with fail
      refine (of_any _ _ _).mono ?_
      rintro e w' ⟨rfl, rfl⟩
      go_wp2_with fail
      refine (of_any _ _ _).mono ?_
      rintro e w' ⟨rfl, rfl⟩
      go_wp2_with fail
      refine (hull_any p q r s _ (okB_intro (by omega) (by omega) (by omega)) (okB_intro (by omega) (by omega) (by omega))).mono ?_
      rintro e w' ⟨rfl, rfl⟩
      go_wp2_with fail
      refine (inside_yes p q (min p r) (max q s) _ (okB_intro (by omega) (by omega) (by omega)) (okB_intro (by omega) (by omega) (by omega)) (by omega) (by omega)).mono ?_
      rintro e w' ⟨rfl, rfl⟩
      go_wp2_with fail
      refine (known3_any _).mono ?_
      rintro e w1 ⟨rfl, hb⟩
      have HB := Lib.hid hb
      clear hb
      go_wp2_with fail
      go_ret
      exact ⟨rfl, HB.out⟩
    · by_cases i1 : r ≤ x'
      · by_cases i2 : x' ≤ s
        · have h1' : r ≤ q := by omega
          have h2' : p ≤ s := by omega
          clear h1 h2
          go_wp2_with fail
          refine (of_any _ _ _).mono ?_
          rintro e w' ⟨rfl, rfl⟩
          go_wp2_with fail
          refine (of_any _ _ _).mono ?_
          rintro e w' ⟨rfl, rfl⟩
          go_wp2_with fail
          refine (add_yes p q r s _ (okB_intro (by omega) (by omega) (by omega)) (okB_intro (by omega) (by omega) (by omega)) (okB_intro (by omega) (by omega) (by omega))).mono ?_
          rintro e w' ⟨rfl, rfl⟩
          go_wp2_with fail
          refine (of_any _ _ _).mono ?_
          rintro e w' ⟨rfl, rfl⟩
          go_wp2_with fail
          refine (of_any _ _ _).mono ?_
          rintro e w' ⟨rfl, rfl⟩
          go_wp2_with fail
          refine (sub_yes p q r s _ (okB_intro (by omega) (by omega) (by omega)) (okB_intro (by omega) (by omega) (by omega)) (okB_intro (by omega) (by omega) (by omega))).mono ?_
          rintro e w' ⟨rfl, rfl⟩
          go_wp2_with fail
          refine (of_any _ _ _).mono ?_
          rintro e w' ⟨rfl, rfl⟩
          go_wp2_with fail
          refine (of_any _ _ _).mono ?_
          rintro e w' ⟨rfl, rfl⟩
          go_wp2_with fail
          refine (meet_yes p q r s _ (okB_intro (by omega) (by omega) (by omega)) (okB_intro (by omega) (by omega) (by omega)) (okB_intro (by omega) (by omega) (by omega))).mono ?_
          rintro e w' ⟨rfl, rfl⟩
          go_upto_region 11 with fail
          refine wp_region_lit ?_
          simp only [List.append_eq, List.cons_append, List.nil_append]
          go_wp2_with fail
          refine (of_any _ _ _).mono ?_
          rintro e w' ⟨rfl, rfl⟩
          go_wp2_with fail
          refine (inside_yes (x' + y') (x' + y') (p + r) (q + s) _ (okB_intro (by omega) (by omega) (by omega)) (okB_intro (by omega) (by omega) (by omega)) (by omega) (by omega)).mono ?_
          rintro e w' ⟨rfl, rfl⟩
          go_wp2_with fail
          refine (of_any _ _ _).mono ?_
          rintro e w' ⟨rfl, rfl⟩
          go_wp2_with fail
          refine (inside_yes (x' - y') (x' - y') (p - s) (q - r) _ (okB_intro (by omega) (by omega) (by omega)) (okB_intro (by omega) (by omega) (by omega)) (by omega) (by omega)).mono ?_
          rintro e w' ⟨rfl, rfl⟩
          go_wp2_with fail
          refine (of_any _ _ _).mono ?_
          rintro e w' ⟨rfl, rfl⟩
          go_wp2_with fail
          refine (inside_yes x' x' (max p r) (min q s) _ (okB_intro (by omega) (by omega) (by omega)) (okB_intro (by omega) (by omega) (by omega)) (by omega) (by omega)).mono ?_
          rintro e w' ⟨rfl, rfl⟩
          go_wp2_with fail
          refine (of_any _ _ _).mono ?_
          rintro e w' ⟨rfl, rfl⟩
          go_wp2_with fail
          refine (of_any _ _ _).mono ?_
          rintro e w' ⟨rfl, rfl⟩
          go_wp2_with fail
          refine (before_no p q r s _ (okB_intro (by omega) (by omega) (by omega)) (okB_intro (by omega) (by omega) (by omega)) (by omega)).mono ?_
          rintro e w' ⟨rfl, rfl⟩
          go_wp2_with fail
          refine (of_any _ _ _).mono ?_
          rintro e w' ⟨rfl, rfl⟩
          go_wp2_with fail
          refine (of_any _ _ _).mono ?_
          rintro e w' ⟨rfl, rfl⟩
          go_wp2_with fail
          refine (before_no r s p q _ (okB_intro (by omega) (by omega) (by omega)) (okB_intro (by omega) (by omega) (by omega)) (by omega)).mono ?_
          rintro e w' ⟨rfl, rfl⟩
          go_wp2_with fail
          refine (of_any _ _ _).mono ?_
          rintro e w' ⟨rfl, rfl⟩
          go_wp2_with fail
          refine (of_any _ _ _).mono ?_
          rintro e w' ⟨rfl, rfl⟩
          go_wp2_with fail
          refine (of_any _ _ _).mono ?_
          rintro e w' ⟨rfl, rfl⟩
          go_wp2_with fail
          refine (hull_any p q r s _ (okB_intro (by omega) (by omega) (by omega)) (okB_intro (by omega) (by omega) (by omega))).mono ?_
          rintro e w' ⟨rfl, rfl⟩
          go_wp2_with fail
          refine (inside_yes p q (min p r) (max q s) _ (okB_intro (by omega) (by omega) (by omega)) (okB_intro (by omega) (by omega) (by omega)) (by omega) (by omega)).mono ?_
          rintro e w' ⟨rfl, rfl⟩
          go_wp2_with fail
          refine (known3_any _).mono ?_
          rintro e w1 ⟨rfl, hb⟩
          have HB := Lib.hid hb
          clear hb
          go_wp2_with fail
          go_ret
          exact ⟨rfl, HB.out⟩
        · have h1' : r ≤ q := by omega
          have h2' : p ≤ s := by omega
          clear h1 h2
          go_wp2_with fail
          refine (of_any _ _ _).mono ?_
          rintro e w' ⟨rfl, rfl⟩
          go_wp2_with fail
          refine (of_any _ _ _).mono ?_
          rintro e w' ⟨rfl, rfl⟩
          go_wp2_with fail
          refine (add_yes p q r s _ (okB_intro (by omega) (by omega) (by omega)) (okB_intro (by omega) (by omega) (by omega)) (okB_intro (by omega) (by omega) (by omega))).mono ?_
          rintro e w' ⟨rfl, rfl⟩
          go_wp2_with fail
          refine (of_any _ _ _).mono ?_
          rintro e w' ⟨rfl, rfl⟩
          go_wp2_with fail
          refine (of_any _ _ _).mono ?_
          rintro e w' ⟨rfl, rfl⟩
          go_wp2_with fail
          refine (sub_yes p q r s _ (okB_intro (by omega) (by omega) (by omega)) (okB_intro (by omega) (by omega) (by omega)) (okB_intro (by omega) (by omega) (by omega))).mono ?_
          rintro e w' ⟨rfl, rfl⟩
          go_wp2_with fail
          refine (of_any _ _ _).mono ?_
          rintro e w' ⟨rfl, rfl⟩
          go_wp2_with fail
          refine (of_any _ _ _).mono ?_
          rintro e w' ⟨rfl, rfl⟩
          go_wp2_with fail
          refine (meet_yes p q r s _ (okB_intro (by omega) (by omega) (by omega)) (okB_intro (by omega) (by omega) (by omega)) (okB_intro (by omega) (by omega) (by omega))).mono ?_
          rintro e w' ⟨rfl, rfl⟩
          go_upto_region 11 with fail
          refine wp_region_lit ?_
          simp only [List.append_eq, List.cons_append, List.nil_append]
          go_wp2_with fail
          refine (of_any _ _ _).mono ?_
          rintro e w' ⟨rfl, rfl⟩
          go_wp2_with fail
          refine (inside_yes (x' + y') (x' + y') (p + r) (q + s) _ (okB_intro (by omega) (by omega) (by omega)) (okB_intro (by omega) (by omega) (by omega)) (by omega) (by omega)).mono ?_
          rintro e w' ⟨rfl, rfl⟩
          go_wp2_with fail
          refine (of_any _ _ _).mono ?_
          rintro e w' ⟨rfl, rfl⟩
          go_wp2_with fail
          refine (inside_yes (x' - y') (x' - y') (p - s) (q - r) _ (okB_intro (by omega) (by omega) (by omega)) (okB_intro (by omega) (by omega) (by omega)) (by omega) (by omega)).mono ?_
          rintro e w' ⟨rfl, rfl⟩
          go_wp2_with fail
          refine (of_any _ _ _).mono ?_
          rintro e w' ⟨rfl, rfl⟩
          go_wp2_with fail
          refine (of_any _ _ _).mono ?_
          rintro e w' ⟨rfl, rfl⟩
          go_wp2_with fail
          refine (before_no p q r s _ (okB_intro (by omega) (by omega) (by omega)) (okB_intro (by omega) (by omega) (by omega)) (by omega)).mono ?_
          rintro e w' ⟨rfl, rfl⟩
          go_wp2_with fail
          refine (of_any _ _ _).mono ?_
          rintro e w' ⟨rfl, rfl⟩
          go_wp2_with fail
          refine (of_any _ _ _).mono ?_
          rintro e w' ⟨rfl, rfl⟩
          go_wp2_with fail
          refine (before_no r s p q _ (okB_intro (by omega) (by omega) (by omega)) (okB_intro (by omega) (by omega) (by omega)) (by omega)).mono ?_
          rintro e w' ⟨rfl, rfl⟩
          go_wp2_with fail
          refine (of_any _ _ _).mono ?_
          rintro e w' ⟨rfl, rfl⟩
          go_wp2_with fail
          refine (of_any _ _ _).mono ?_
          rintro e w' ⟨rfl, rfl⟩
          go_wp2_with fail
          refine (of_any _ _ _).mono ?_
          rintro e w' ⟨rfl, rfl⟩
          go_wp2_with fail
          refine (hull_any p q r s _ (okB_intro (by omega) (by omega) (by omega)) (okB_intro (by omega) (by omega) (by omega))).mono ?_
          rintro e w' ⟨rfl, rfl⟩
          go_wp2_with fail
          refine (inside_yes p q (min p r) (max q s) _ (okB_intro (by omega) (by omega) (by omega)) (okB_intro (by omega) (by omega) (by omega)) (by omega) (by omega)).mono ?_
          rintro e w' ⟨rfl, rfl⟩
          go_wp2_with fail
          refine (known3_any _).mono ?_
          rintro e w1 ⟨rfl, hb⟩
          have HB := Lib.hid hb
          clear hb
          go_wp2_with fail
          go_ret
          exact ⟨rfl, HB.out⟩
      · have h1' : r ≤ q := by omega
        have h2' : p ≤ s := by omega
        clear h1 h2
        go_wp2_with fail
        refine (of_any _ _ _).mono ?_
        rintro e w' ⟨rfl, rfl⟩
        go_wp2_with fail
        refine (of_any _ _ _).mono ?_
        rintro e w' ⟨rfl, rfl⟩
        go_wp2_with fail
        refine (add_yes p q r s _ (okB_intro (by omega) (by omega) (by omega)) (okB_intro (by omega) (by omega) (by omega)) (okB_intro (by omega) (by omega) (by omega))).mono ?_
        rintro e w' ⟨rfl, rfl⟩
        go_wp2_with fail
        refine (of_any _ _ _).mono ?_
        rintro e w' ⟨rfl, rfl⟩
        go_wp2_with fail
        refine (of_any _ _ _).mono ?_
        rintro e w' ⟨rfl, rfl⟩
        go_wp2_with fail
        refine (sub_yes p q r s _ (okB_intro (by omega) (by omega) (by omega)) (okB_intro (by omega) (by omega) (by omega)) (okB_intro (by omega) (by omega) (by omega))).mono ?_
        rintro e w' ⟨rfl, rfl⟩
        go_wp2_with fail
        refine (of_any _ _ _).mono ?_
        rintro e w' ⟨rfl, rfl⟩
        go_wp2_with fail
        refine (of_any _ _ _).mono ?_
        rintro e w' ⟨rfl, rfl⟩
        go_wp2_with fail
        refine (meet_yes p q r s _ (okB_intro (by omega) (by omega) (by omega)) (okB_intro (by omega) (by omega) (by omega)) (okB_intro (by omega) (by omega) (by omega))).mono ?_
        rintro e w' ⟨rfl, rfl⟩
        go_upto_region 11 with fail
        refine wp_region_lit ?_
        simp only [List.append_eq, List.cons_append, List.nil_append]
        go_wp2_with fail
        refine (of_any _ _ _).mono ?_
        rintro e w' ⟨rfl, rfl⟩
        go_wp2_with fail
        refine (inside_yes (x' + y') (x' + y') (p + r) (q + s) _ (okB_intro (by omega) (by omega) (by omega)) (okB_intro (by omega) (by omega) (by omega)) (by omega) (by omega)).mono ?_
        rintro e w' ⟨rfl, rfl⟩
        go_wp2_with fail
        refine (of_any _ _ _).mono ?_
        rintro e w' ⟨rfl, rfl⟩
        go_wp2_with fail
        refine (inside_yes (x' - y') (x' - y') (p - s) (q - r) _ (okB_intro (by omega) (by omega) (by omega)) (okB_intro (by omega) (by omega) (by omega)) (by omega) (by omega)).mono ?_
        rintro e w' ⟨rfl, rfl⟩
        go_wp2_with fail
        refine (of_any _ _ _).mono ?_
        rintro e w' ⟨rfl, rfl⟩
        go_wp2_with fail
        refine (of_any _ _ _).mono ?_
        rintro e w' ⟨rfl, rfl⟩
        go_wp2_with fail
        refine (before_no p q r s _ (okB_intro (by omega) (by omega) (by omega)) (okB_intro (by omega) (by omega) (by omega)) (by omega)).mono ?_
        rintro e w' ⟨rfl, rfl⟩
        go_wp2_with fail
        refine (of_any _ _ _).mono ?_
        rintro e w' ⟨rfl, rfl⟩
        go_wp2_with fail
        refine (of_any _ _ _).mono ?_
        rintro e w' ⟨rfl, rfl⟩
        go_wp2_with fail
        refine (before_no r s p q _ (okB_intro (by omega) (by omega) (by omega)) (okB_intro (by omega) (by omega) (by omega)) (by omega)).mono ?_
        rintro e w' ⟨rfl, rfl⟩
        go_wp2_with fail
        refine (of_any _ _ _).mono ?_
        rintro e w' ⟨rfl, rfl⟩
        go_wp2_with fail
        refine (of_any _ _ _).mono ?_
        rintro e w' ⟨rfl, rfl⟩
        go_wp2_with fail
        refine (of_any _ _ _).mono ?_
        rintro e w' ⟨rfl, rfl⟩
        go_wp2_with fail
        refine (hull_any p q r s _ (okB_intro (by omega) (by omega) (by omega)) (okB_intro (by omega) (by omega) (by omega))).mono ?_
        rintro e w' ⟨rfl, rfl⟩
        go_wp2_with fail
        refine (inside_yes p q (min p r) (max q s) _ (okB_intro (by omega) (by omega) (by omega)) (okB_intro (by omega) (by omega) (by omega)) (by omega) (by omega)).mono ?_
        rintro e w' ⟨rfl, rfl⟩
        go_wp2_with fail
        refine (known3_any _).mono ?_
        rintro e w1 ⟨rfl, hb⟩
        have HB := Lib.hid hb
        clear hb
        go_wp2_with fail
        go_ret
        exact ⟨rfl, HB.out⟩

end Go.Proofs.Ytkpkimhpecbkoaa
