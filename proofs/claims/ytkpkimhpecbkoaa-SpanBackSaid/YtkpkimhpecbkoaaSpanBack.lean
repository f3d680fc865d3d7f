/-
  The walk of the law SpanBack.
-/
import Derived.Test.YtkpkimhpecbkoaaSpanPlus
set_option linter.unusedVariables false
set_option linter.unusedSimpArgs false
namespace Go.Proofs.Ytkpkimhpecbkoaa
open Go.RowKit

set_option maxRecDepth 100000 in
set_option maxHeartbeats 8000000 in
theorem spanBack_any (a b c d : Int) (w : World) :
    Calls Try.prog 6 #[.int .i64 a, .int .i64 b, .int .i64 c, .int .i64 d] w fun e w' => e = .returned (.bool true) ∧ Below w.heap.size w w' := by
  go_enter Try.func6, Try.ntmps6
  go_wp2_with fail
  refine (within_ex a 0 2000 _ (by omega) (by omega) (by omega) (by omega)).mono ?_
  rintro e w' ⟨A', A0, A1, rfl, rfl⟩
  go_wp2_with fail
  refine (within_ex c 0 2000 _ (by omega) (by omega) (by omega) (by omega)).mono ?_
  rintro e w' ⟨C', C0, C1, rfl, rfl⟩
  go_wp2_with fail
  have a0 : -1000 ≤ A' - 1000 := by omega
  have a1 : A' - 1000 ≤ 1000 := by omega
  have c0 : -1000 ≤ C' - 1000 := by omega
  have c1 : C' - 1000 ≤ 1000 := by omega
  generalize A' - 1000 = p at *
  generalize C' - 1000 = r at *
  clear A0 A1 C0 C1
  refine (within_ex b 0 300 _ (by omega) (by omega) (by omega) (by omega)).mono ?_
  rintro e w' ⟨B', B0, B1, rfl, rfl⟩
  go_wp2_with fail
  have b0 : p ≤ p + B' := by omega
  have b1 : p + B' ≤ p + 300 := by omega
  generalize p + B' = q at *
  clear B0 B1
  refine (of_any _ _ _).mono ?_
  rintro e w' ⟨rfl, rfl⟩
  go_wp2_with fail
  refine (within_ex d 0 300 _ (by omega) (by omega) (by omega) (by omega)).mono ?_
  rintro e w' ⟨D', D0, D1, rfl, rfl⟩
  go_wp2_with fail
  have d0 : r ≤ r + D' := by omega
  have d1 : r + D' ≤ r + 300 := by omega
  generalize r + D' = s at *
  clear D0 D1
  refine (of_any _ _ _).mono ?_
  rintro e w' ⟨rfl, rfl⟩
  go_wp2_with fail
  refine (add_yes p q r s _ (okB_intro (by omega) (by omega) (by omega)) (okB_intro (by omega) (by omega) (by omega)) (okB_intro (by omega) (by omega) (by omega))).mono ?_
  rintro e w' ⟨rfl, rfl⟩
  go_wp2_with fail
  refine (sub_yes (p + r) (q + s) r s _ (okB_intro (by omega) (by omega) (by omega)) (okB_intro (by omega) (by omega) (by omega)) (okB_intro (by omega) (by omega) (by omega))).mono ?_
  rintro e w' ⟨rfl, rfl⟩
  obtain ⟨L, hL0⟩ : ∃ L, L = min p r := ⟨_, rfl⟩
  obtain ⟨H, hH0⟩ : ∃ H, H = max q s := ⟨_, rfl⟩
  have hL' : L = min r p := by omega
  have hH' : H = max s q := by omega
  have hL : L = min p r := hL0
  have hH : H = max q s := hH0
  have e1 := self_eq (a := L) (fits (by omega) (by omega))
  have e2 := self_eq (a := H) (fits (by omega) (by omega))
  have HL1 := Lib.hid hL
  have HL2 := Lib.hid hL'
  have HH1 := Lib.hid hH
  have HH2 := Lib.hid hH'
  clear hL hL' hH hH' hL0 hH0
  have k0 : (FloatKind.f64.format.order 0 0 == some .eq) = true := by decide
  by_cases h1 : q < r
  · go_wp2_with fail
    refine (meet_no p q r s _ (okB_intro (by omega) (by omega) (by omega)) (okB_intro (by omega) (by omega) (by omega)) (by omega)).mono ?_
    rintro e w' ⟨rfl, rfl⟩
    go_wp2_with fail
    refine (meet_no r s p q _ (okB_intro (by omega) (by omega) (by omega)) (okB_intro (by omega) (by omega) (by omega)) (by omega)).mono ?_
    rintro e w' ⟨rfl, rfl⟩
    go_upto_region 9 with fail
    refine wp_region_lit ?_
    repeat simp only [List.append_eq, List.cons_append, List.nil_append]
    go_wp2_with fail
    refine (inside_yes p q (p + r - s) (q + s - r) _ (okB_intro (by omega) (by omega) (by omega)) (okB_intro (by omega) (by omega) (by omega)) (by omega) (by omega)).mono ?_
    rintro e w' ⟨rfl, rfl⟩
    go_wp2_with fail
    refine (inside_yes p q p q _ (okB_intro (by omega) (by omega) (by omega)) (okB_intro (by omega) (by omega) (by omega)) (by omega) (by omega)).mono ?_
    rintro e w' ⟨rfl, rfl⟩
    go_wp2_with fail
    refine (before_yes p q r s _ (okB_intro (by omega) (by omega) (by omega)) (okB_intro (by omega) (by omega) (by omega)) (by omega)).mono ?_
    rintro e w' ⟨rfl, rfl⟩
    go_wp2_with fail
    refine (hull_is p q r s L H _ (okB_intro (by omega) (by omega) (by omega)) (okB_intro (by omega) (by omega) (by omega)) HL1.out HH1.out).mono ?_
    rintro e w' ⟨rfl, rfl⟩
    go_wp2_with fail
    refine (hull_is r s p q L H _ (okB_intro (by omega) (by omega) (by omega)) (okB_intro (by omega) (by omega) (by omega)) HL2.out HH2.out).mono ?_
    rintro e w' ⟨rfl, rfl⟩
    go_wp2_with fail
    refine (known3_any _).mono ?_
    rintro e w1 ⟨rfl, hb⟩
    have HB := Lib.hid hb
    clear hb
    go_wp2_with fail
    go_ret
    exact ⟨rfl, HB.out⟩
  · by_cases h2 : s < p
    · go_wp2_with fail
      refine (meet_no p q r s _ (okB_intro (by omega) (by omega) (by omega)) (okB_intro (by omega) (by omega) (by omega)) (by omega)).mono ?_
      rintro e w' ⟨rfl, rfl⟩
      go_wp2_with fail
      refine (meet_no r s p q _ (okB_intro (by omega) (by omega) (by omega)) (okB_intro (by omega) (by omega) (by omega)) (by omega)).mono ?_
      rintro e w' ⟨rfl, rfl⟩
      go_upto_region 9 with fail
      refine wp_region_lit ?_
      repeat simp only [List.append_eq, List.cons_append, List.nil_append]
      go_wp2_with fail
      refine (inside_yes p q (p + r - s) (q + s - r) _ (okB_intro (by omega) (by omega) (by omega)) (okB_intro (by omega) (by omega) (by omega)) (by omega) (by omega)).mono ?_
      rintro e w' ⟨rfl, rfl⟩
      go_wp2_with fail
      refine (inside_yes p q p q _ (okB_intro (by omega) (by omega) (by omega)) (okB_intro (by omega) (by omega) (by omega)) (by omega) (by omega)).mono ?_
      rintro e w' ⟨rfl, rfl⟩
      go_wp2_with fail
      refine (before_no p q r s _ (okB_intro (by omega) (by omega) (by omega)) (okB_intro (by omega) (by omega) (by omega)) (by omega)).mono ?_
      rintro e w' ⟨rfl, rfl⟩
      go_wp2_with fail
      refine (before_yes r s p q _ (okB_intro (by omega) (by omega) (by omega)) (okB_intro (by omega) (by omega) (by omega)) (by omega)).mono ?_
      rintro e w' ⟨rfl, rfl⟩
      go_wp2_with fail
      refine (hull_is p q r s L H _ (okB_intro (by omega) (by omega) (by omega)) (okB_intro (by omega) (by omega) (by omega)) HL1.out HH1.out).mono ?_
      rintro e w' ⟨rfl, rfl⟩
      go_wp2_with fail
      refine (hull_is r s p q L H _ (okB_intro (by omega) (by omega) (by omega)) (okB_intro (by omega) (by omega) (by omega)) HL2.out HH2.out).mono ?_
      rintro e w' ⟨rfl, rfl⟩
      go_wp2_with fail
      refine (known3_any _).mono ?_
      rintro e w1 ⟨rfl, hb⟩
      have HB := Lib.hid hb
      clear hb
      go_wp2_with fail
      go_ret
      exact ⟨rfl, HB.out⟩
    · obtain ⟨M, hM⟩ : ∃ M, M = max p r := ⟨_, rfl⟩
      obtain ⟨N, hN⟩ : ∃ N, N = min q s := ⟨_, rfl⟩
      have m1 : p ≤ M := by omega
      have m2 : r ≤ M := by omega
      have m3 : N ≤ q := by omega
      have m4 : N ≤ s := by omega
      have m5 : M ≤ N := by omega
      have m6 : r ≤ q := by omega
      have m7 : p ≤ s := by omega
      have HM := Lib.hid hM
      have HN := Lib.hid hN
      have HM' := Lib.hid (show M = max r p by omega)
      have HN' := Lib.hid (show N = min s q by omega)
      have e3 := self_eq (a := M) (fits (by omega) (by omega))
      have e4 := self_eq (a := N) (fits (by omega) (by omega))
      clear hM hN h1 h2
      go_wp2_with fail
      refine (meet_is p q r s M N _ (okB_intro (by omega) (by omega) (by omega)) (okB_intro (by omega) (by omega) (by omega)) HM.out HN.out (okB_intro (by omega) (by omega) (by omega))).mono ?_
      rintro e w' ⟨rfl, rfl⟩
      go_wp2_with fail
      refine (meet_is r s p q M N _ (okB_intro (by omega) (by omega) (by omega)) (okB_intro (by omega) (by omega) (by omega)) HM'.out HN'.out (okB_intro (by omega) (by omega) (by omega))).mono ?_
      rintro e w' ⟨rfl, rfl⟩
      go_upto_region 9 with fail
      refine wp_region_lit ?_
      repeat simp only [List.append_eq, List.cons_append, List.nil_append]
      go_wp2_with fail
      refine (inside_yes p q (p + r - s) (q + s - r) _ (okB_intro (by omega) (by omega) (by omega)) (okB_intro (by omega) (by omega) (by omega)) (by omega) (by omega)).mono ?_
      rintro e w' ⟨rfl, rfl⟩
      go_wp2_with fail
      refine (inside_yes p q p q _ (okB_intro (by omega) (by omega) (by omega)) (okB_intro (by omega) (by omega) (by omega)) (by omega) (by omega)).mono ?_
      rintro e w' ⟨rfl, rfl⟩
      go_wp2_with fail
      refine (inside_yes M N p q _ (okB_intro (by omega) (by omega) (by omega)) (okB_intro (by omega) (by omega) (by omega)) (by omega) (by omega)).mono ?_
      rintro e w' ⟨rfl, rfl⟩
      go_wp2_with fail
      refine (inside_yes M N r s _ (okB_intro (by omega) (by omega) (by omega)) (okB_intro (by omega) (by omega) (by omega)) (by omega) (by omega)).mono ?_
      rintro e w' ⟨rfl, rfl⟩
      go_wp2_with fail
      refine (before_no p q r s _ (okB_intro (by omega) (by omega) (by omega)) (okB_intro (by omega) (by omega) (by omega)) (by omega)).mono ?_
      rintro e w' ⟨rfl, rfl⟩
      go_wp2_with fail
      refine (before_no r s p q _ (okB_intro (by omega) (by omega) (by omega)) (okB_intro (by omega) (by omega) (by omega)) (by omega)).mono ?_
      rintro e w' ⟨rfl, rfl⟩
      go_wp2_with fail
      refine (hull_is p q r s L H _ (okB_intro (by omega) (by omega) (by omega)) (okB_intro (by omega) (by omega) (by omega)) HL1.out HH1.out).mono ?_
      rintro e w' ⟨rfl, rfl⟩
      go_wp2_with fail
      refine (hull_is r s p q L H _ (okB_intro (by omega) (by omega) (by omega)) (okB_intro (by omega) (by omega) (by omega)) HL2.out HH2.out).mono ?_
      rintro e w' ⟨rfl, rfl⟩
      go_wp2_with fail
      refine (known3_any _).mono ?_
      rintro e w1 ⟨rfl, hb⟩
      have HB := Lib.hid hb
      clear hb
      go_wp2_with fail
      go_ret
      exact ⟨rfl, HB.out⟩

end Go.Proofs.Ytkpkimhpecbkoaa
