/-
  The walks of package span, on spans of whole numbers.
-/
import Derived.Test.YtkpkimhpecbkoaaBase
import Derived.Test.YtkpkimhpecbkoaaFlt
import Derived.Laws.Externs
import Derived.Laws.Cover3
set_option linter.unusedVariables false
set_option linter.unusedSimpArgs false
namespace Go.Proofs.Ytkpkimhpecbkoaa
open Go.RowKit

/-- A number that a float has, its sums too. -/
def Fit (a : Int) : Prop := a.natAbs < 2 ^ 50
theorem Fit.lt {a : Int} (h : Fit a) : a.natAbs < 2 ^ 53 := by unfold Fit at h; omega
theorem Fit.of {a : Int} (h0 : -1125899906842623 ≤ a) (h1 : a ≤ 1125899906842623) : Fit a := by unfold Fit; omega
theorem Fit.add53 {a b : Int} (h : Fit a) (h' : Fit b) : (a + b).natAbs < 2 ^ 53 := by unfold Fit at *; omega
theorem Fit.sub53 {a b : Int} (h : Fit a) (h' : Fit b) : (a - b).natAbs < 2 ^ 53 := by unfold Fit at *; omega
theorem Fit.abs {a : Int} (h : Fit a) : Fit (a.natAbs : Int) := by unfold Fit at *; omega

theorem lt_b {a b : Int} (ha : Fit a) (hb : Fit b) : (FloatKind.f64.format.order (fl a) (fl b) == some .lt) = decide (a < b) := by
  rw [order_fl ha.lt hb.lt, Bool.eq_iff_iff]
  simp [Int.compare_eq_lt]
theorem eq_b {a b : Int} (ha : Fit a) (hb : Fit b) : (FloatKind.f64.format.order (fl a) (fl b) == some .eq) = decide (a = b) := by
  rw [order_fl ha.lt hb.lt, Bool.eq_iff_iff]
  simp
theorem le_b {a b : Int} (ha : Fit a) (hb : Fit b) : (FloatKind.f64.format.order (fl a) (fl b) == some .lt || FloatKind.f64.format.order (fl a) (fl b) == some .eq) = decide (a ≤ b) := by
  rw [lt_b ha hb, eq_b ha hb, Bool.eq_iff_iff]
  simp
  omega

section
variable {P : Program}
theorem run_add_fl {a b : Int} (t : TypeId) (ha : Fit a) (hb : Fit b) (w : World) : (binOp .add t (.float .f64 (fl a)) (.float .f64 (fl b))).run P w = .ok (.float .f64 (fl (a + b))) w :=
  run_float_arith w .add t .f64 _ _ _ (add_fl ha.lt hb.lt (ha.add53 hb))
theorem run_sub_fl {a b : Int} (t : TypeId) (ha : Fit a) (hb : Fit b) (w : World) : (binOp .sub t (.float .f64 (fl a)) (.float .f64 (fl b))).run P w = .ok (.float .f64 (fl (a - b))) w :=
  run_float_arith w .sub t .f64 _ _ _ (sub_fl ha.lt hb.lt (ha.sub53 hb))
theorem run_cadd_fl {a b c d : Int} (t : TypeId) (ha : Fit a) (hb : Fit b) (hc : Fit c) (hd : Fit d) (w : World) :
    (binOp .add t (.complex .f64 (fl a) (fl b)) (.complex .f64 (fl c) (fl d))).run P w = .ok (.complex .f64 (fl (a + c)) (fl (b + d))) w := by
  refine run_complex_sum w .add (.inl rfl) t .f64 _ _ _ _ _ _ ?_
  unfold cSumBits
  rw [add_fl ha.lt hc.lt (ha.add53 hc), add_fl hb.lt hd.lt (hb.add53 hd)]
  rfl
theorem run_max_fl {a b : Int} (ts : Array TypeId) (t : TypeId) (ha : Fit a) (hb : Fit b) (w : World) : (Builtin.max_ ts t #[.float .f64 (fl a), .float .f64 (fl b)]).run P w = .ok (.float .f64 (fl (max a b))) w := by
  have h : (Builtin.max_ ts t #[.float .f64 (fl a), .float .f64 (fl b)]) = Builtin.max2 (.float .f64 (fl a)) (.float .f64 (fl b)) := by
    simp [Builtin.max_]
  rw [h]
  have ho := order_fl ha.lt hb.lt
  rcases Int.lt_trichotomy a b with h1 | rfl | h1
  · rw [show compare a b = .lt from Int.compare_eq_lt.2 h1] at ho
    rw [show max a b = b by omega]
    simp only [Builtin.max2, ho]
    rfl
  · rw [show compare a a = .eq from Int.compare_eq_eq.2 rfl] at ho
    rw [show max a a = a by omega]
    simp only [Builtin.max2, ho, ite_self]
    rfl
  · rw [show compare a b = .gt from Int.compare_eq_gt.2 h1] at ho
    rw [show max a b = a by omega]
    simp only [Builtin.max2, ho]
    rfl
theorem run_min_fl {a b : Int} (ts : Array TypeId) (t : TypeId) (ha : Fit a) (hb : Fit b) (w : World) : (Builtin.min_ ts t #[.float .f64 (fl a), .float .f64 (fl b)]).run P w = .ok (.float .f64 (fl (min a b))) w := by
  have h : (Builtin.min_ ts t #[.float .f64 (fl a), .float .f64 (fl b)]) = Builtin.min2 (.float .f64 (fl a)) (.float .f64 (fl b)) := by
    simp [Builtin.min_]
  rw [h]
  have ho := order_fl ha.lt hb.lt
  rcases Int.lt_trichotomy a b with h1 | rfl | h1
  · rw [show compare a b = .lt from Int.compare_eq_lt.2 h1] at ho
    rw [show min a b = a by omega]
    simp only [Builtin.min2, ho]
    rfl
  · rw [show compare a a = .eq from Int.compare_eq_eq.2 rfl] at ho
    rw [show min a a = a by omega]
    simp only [Builtin.min2, ho, ite_self]
    rfl
  · rw [show compare a b = .gt from Int.compare_eq_gt.2 h1] at ho
    rw [show min a b = b by omega]
    simp only [Builtin.min2, ho]
    rfl
theorem run_toInt_fl {a : Int} (src dst : TypeId) (hs : (P.underlying src).isSome = true) (hd : P.underlying dst = some (.int .i64)) (ha : Fit a) (w : World) : (convert src dst (.float .f64 (fl a))).run P w = .ok (.int .i64 a) w := by
  refine run_convert_float_int w src dst .f64 .i64 _ _ hs hd ?_
  unfold floatToIntVal
  rw [toInt_fl ha.lt]
  show (if _ then _ else _) = _
  unfold Fit at ha
  have h1 : IntKind.i64.min ≤ a := by show -9223372036854775808 ≤ a; omega
  have h2 : a ≤ IntKind.i64.max := by show a ≤ 9223372036854775807; omega
  rw [if_pos ⟨h1, h2⟩]
end

theorem run_trunc {a : Int} (ha : Fit a) (w : World) : (callFunc 50 #[.float .f64 (fl a)]).run Try.prog w = .ok (.value (.float .f64 (fl a))) w := by
  rw [run_callFunc_extern Try.func50 (by kernel_rfl) (by kernel_rfl) (by kernel_rfl) (show Extern.find Try.f50 = some (Extern.MathFloor.toIntegral "math.archTrunc" .zero) by kernel_rfl)]
  obtain ⟨k, hk⟩ := read_fl ha.lt
  have h1 := trunc_fl ha.lt .zero
  rw [hk] at h1
  have h2 : (Extern.MathFloor.toIntegral "math.archTrunc" .zero #[.float .f64 (fl a)]).run Try.prog w = .ok (.float .f64 (fl a)) w := by
    change Sem.run Try.prog (match FloatKind.f64.decode (fl a) with
      | .nan s t =>
        if FloatKind.f64.format.quiet t = t then pure (Value.float .f64 (fl a)) else do
        let kept ← choose (.extern ("math.Floor,Ceil,Trunc,RoundToEven.signallingNaN kept") 2)
        pure (Value.float .f64 (if kept == 1 then (fl a) else FloatKind.f64.encode (.nan s (FloatKind.f64.format.quiet t))))
      | d => pure (Value.float .f64 (FloatKind.f64.encode (d.integral .zero)))) w = _
    rw [hk]
    show Sem.run Try.prog (pure (Value.float .f64 (FloatKind.f64.encode _))) w = _
    rw [h1]
    rfl
  rw [h2]
  rfl
theorem run_bits (x : Nat) (w : World) : (callFunc 53 #[.float .f64 x]).run Try.prog w = .ok (.value (.int .u64 (x : Int))) w := by
  rw [run_callFunc_extern Try.func53 (by kernel_rfl) (by kernel_rfl) (by kernel_rfl) (show Extern.find Try.f53 = some Extern.MathFloatBits.float64bits by kernel_rfl)]
  rfl
theorem run_frombits (x : Nat) (w : World) : (callFunc 52 #[.int .u64 (x : Int)]).run Try.prog w = .ok (.value (.float .f64 x)) w := by
  rw [run_callFunc_extern Try.func52 (by kernel_rfl) (by kernel_rfl) (by kernel_rfl) (show Extern.find Try.f52 = some Extern.MathFloatBits.float64frombits by kernel_rfl)]
  rfl

theorem andNot_sign (x : Nat) (h : x < 2 ^ 64) : bits .andNot .u64 (x : Int) 9223372036854775808 = ((x % 2 ^ 63 : Nat) : Int) := by
  show IntKind.u64.wrap (((BitVec.ofInt 64 (x : Int)) &&& ~~~(BitVec.ofInt 64 9223372036854775808)).toNat : Int) = _
  have e1 : ~~~(BitVec.ofInt 64 9223372036854775808) = BitVec.ofNat 64 (2 ^ 63 - 1) := by decide
  rw [e1, BitVec.ofInt_natCast, BitVec.toNat_and, BitVec.toNat_ofNat, BitVec.toNat_ofNat, Nat.mod_eq_of_lt h, show (2 ^ 63 - 1) % 2 ^ 64 = 2 ^ 63 - 1 by decide, Nat.and_two_pow_sub_one_eq_mod]
  show ((x % 2 ^ 63 : Nat) : Int) % 18446744073709551616 = _
  have := Nat.mod_lt x (show 0 < 2 ^ 63 by decide)
  omega

set_option maxHeartbeats 1000000 in
theorem trunc_any (a : Int) (w : World) (ha : Fit a) : Calls Try.prog 48 #[.float .f64 (fl a)] w fun e w' => e = .returned (.float .f64 (fl a)) ∧ w = w' := by
  have h1 := run_trunc ha
  go_enter Try.func48, Try.ntmps48
  go_wp2_with fail
  go_ret
  exact ⟨rfl, rfl⟩

set_option maxHeartbeats 1000000 in
theorem abs_any (a : Int) (w : World) (ha : Fit a) : Calls Try.prog 49 #[.float .f64 (fl a)] w fun e w' => e = .returned (.float .f64 (fl (a.natAbs : Int))) ∧ w = w' := by
  have h1 := run_bits (fl a)
  have h2 := run_frombits (fl (a.natAbs : Int))
  have h3 := andNot_sign (fl a) (fl_lt a)
  rw [fl_abs ha.lt] at h3
  go_enter Try.func49, Try.ntmps49
  go_wp2_with fail
  go_ret
  exact ⟨rfl, rfl⟩

def wholeB (a : Int) : Bool := decide ((a.natAbs : Int) ≤ 1099511627776)
def okB (a b : Int) : Bool := wholeB a && wholeB b && decide (a ≤ b)
theorem fl_max : (4787326403894837248 : Nat) = fl 1099511627776 := by decide
theorem okB_intro {a b : Int} (h0 : -1099511627776 ≤ a) (h1 : a ≤ b) (h2 : b ≤ 1099511627776) : okB a b = true := by
  simp [okB, wholeB]
  omega
theorem okB_elim {a b : Int} (h : okB a b = true) : -1099511627776 ≤ a ∧ a ≤ b ∧ b ≤ 1099511627776 := by
  simp [okB, wholeB] at h
  omega
theorem okB_fit {a b : Int} (h : okB a b = true) : Fit a ∧ Fit b := by
  obtain ⟨h1, h2, h3⟩ := okB_elim h
  exact ⟨Fit.of (by omega) (by omega), Fit.of (by omega) (by omega)⟩

set_option maxHeartbeats 1000000 in
theorem whole_any (a : Int) (w : World) (ha : Fit a) : Calls Try.prog 42 #[.float .f64 (fl a)] w fun e w' => e = .returned (.bool (wholeB a)) ∧ w = w' := by
  have h1 := eq_b ha ha
  have h2 := le_b ha.abs (show Fit 1099511627776 from Fit.of (by omega) (by omega))
  rw [← fl_max] at h2
  rw [decide_eq_true rfl] at h1
  have h3 : decide ((a.natAbs : Int) ≤ 1099511627776) = wholeB a := rfl
  rw [h3] at h2
  clear h3
  go_enter Try.func42, Try.ntmps42
  go_wp2_with fail
  refine (trunc_any a _ ha).mono ?_
  rintro e w' ⟨rfl, rfl⟩
  go_wp2_with fail
  refine (abs_any a _ ha).mono ?_
  rintro e w' ⟨rfl, rfl⟩
  go_wp2_with fail
  go_ret
  exact ⟨rfl, rfl⟩

set_option maxHeartbeats 1000000 in
theorem right_any (a b : Int) (w : World) (ha : Fit a) (hb : Fit b) : Calls Try.prog 26 #[.complex .f64 (fl a) (fl b)] w fun e w' => e = .returned (.bool (okB a b)) ∧ w = w' := by
  have h2 := le_b ha hb
  cases h1 : wholeB a
  · have e : okB a b = false := by simp [okB, h1]
    rw [e]
    have H1 := Lib.hid h1
    clear h1 h2 e
    go_enter Try.func26, Try.ntmps26
    go_wp2_with fail
    refine (whole_any a _ ha).mono ?_
    rw [H1.out]
    rintro e w' ⟨rfl, rfl⟩
    go_wp2_with fail
    go_ret
    exact ⟨rfl, rfl⟩
  · cases h3 : wholeB b
    · have e : okB a b = false := by simp [okB, h1, h3]
      rw [e]
      have H1 := Lib.hid h1
      have H3 := Lib.hid h3
      clear h1 h2 h3 e
      go_enter Try.func26, Try.ntmps26
      go_wp2_with fail
      refine (whole_any a _ ha).mono ?_
      rw [H1.out]
      rintro e w' ⟨rfl, rfl⟩
      go_wp2_with fail
      refine (whole_any b _ hb).mono ?_
      rw [H3.out]
      rintro e w' ⟨rfl, rfl⟩
      go_wp2_with fail
      go_ret
      exact ⟨rfl, rfl⟩
    · have e : okB a b = decide (a ≤ b) := by simp [okB, h1, h3]
      rw [e]
      have H1 := Lib.hid h1
      have H3 := Lib.hid h3
      clear h1 h3 e
      generalize decide (a ≤ b) = q at *
      go_enter Try.func26, Try.ntmps26
      go_wp2_with fail
      refine (whole_any a _ ha).mono ?_
      rw [H1.out]
      rintro e w' ⟨rfl, rfl⟩
      go_wp2_with fail
      refine (whole_any b _ hb).mono ?_
      rw [H3.out]
      rintro e w' ⟨rfl, rfl⟩
      go_wp2_with fail
      go_ret
      exact ⟨rfl, rfl⟩

set_option maxHeartbeats 1000000 in
theorem both_any (a b c d : Int) (w : World) (ha : Fit a) (hb : Fit b) (hc : Fit c) (hd : Fit d) :
    Calls Try.prog 40 #[.complex .f64 (fl a) (fl b), .complex .f64 (fl c) (fl d)] w fun e w' => e = .returned (.bool (okB a b && okB c d)) ∧ w = w' := by
  cases h1 : okB a b
  · have H1 := Lib.hid h1
    rw [Bool.false_and]
    clear h1
    go_enter Try.func40, Try.ntmps40
    go_wp2_with fail
    refine (right_any a b _ ha hb).mono ?_
    rw [H1.out]
    rintro e w' ⟨rfl, rfl⟩
    go_wp2_with fail
    go_ret
    exact ⟨rfl, rfl⟩
  · have H1 := Lib.hid h1
    rw [Bool.true_and]
    clear h1
    go_enter Try.func40, Try.ntmps40
    go_wp2_with fail
    refine (right_any a b _ ha hb).mono ?_
    rw [H1.out]
    rintro e w' ⟨rfl, rfl⟩
    go_wp2_with fail
    refine (right_any c d _ hc hd).mono ?_
    rintro e w' ⟨rfl, rfl⟩
    go_wp2_with fail
    go_ret
    exact ⟨rfl, rfl⟩

/-- A span, if it is one. -/
def spIf (q : Bool) (a b : Int) : Value := .tuple #[if q then .complex .f64 (fl a) (fl b) else .complex .f64 0 0, .bool q]
theorem spIf_true (a b : Int) : spIf true a b = .tuple #[.complex .f64 (fl a) (fl b), .bool true] := rfl
theorem spIf_false (a b : Int) : spIf false a b = .tuple #[.complex .f64 0 0, .bool false] := rfl

set_option maxHeartbeats 1000000 in
theorem some_any (a b : Int) (ok : Bool) (w : World) (h : Fit a ∧ Fit b ∨ ok = false) :
    Calls Try.prog 41 #[.complex .f64 (fl a) (fl b), .bool ok] w fun e w' => e = .returned (spIf (ok && okB a b) a b) ∧ w = w' := by
  cases ok
  · rw [Bool.false_and, spIf_false]
    clear h
    go_enter Try.func41, Try.ntmps41
    go_wp2_with fail
    go_ret2
    exact ⟨rfl, rfl⟩
  · obtain ⟨ha, hb⟩ : Fit a ∧ Fit b := by rcases h with h | h; exact h; cases h
    clear h
    rw [Bool.true_and]
    cases h1 : okB a b
    · have H1 := Lib.hid h1
      rw [spIf_false]
      clear h1
      go_enter Try.func41, Try.ntmps41
      go_wp2_with fail
      refine (right_any a b _ ha hb).mono ?_
      rw [H1.out]
      rintro e w' ⟨rfl, rfl⟩
      go_wp2_with fail
      go_ret2
      exact ⟨rfl, rfl⟩
    · have H1 := Lib.hid h1
      rw [spIf_true]
      clear h1
      go_enter Try.func41, Try.ntmps41
      go_wp2_with fail
      refine (right_any a b _ ha hb).mono ?_
      rw [H1.out]
      rintro e w' ⟨rfl, rfl⟩
      go_wp2_with fail
      go_ret2
      exact ⟨rfl, rfl⟩

theorem Fit.mx {a b : Int} (ha : Fit a) (hb : Fit b) : Fit (max a b) := by unfold Fit at *; omega
theorem Fit.mn {a b : Int} (ha : Fit a) (hb : Fit b) : Fit (min a b) := by unfold Fit at *; omega
/-- Sums that fit where the parts are right. -/
theorem sum_fit {a b c d : Int} : (Fit (a + c) ∧ Fit (b + d)) ∨ (okB a b && okB c d) = false := by
  cases h1 : okB a b
  · exact .inr rfl
  · cases h2 : okB c d
    · exact .inr rfl
    · have := okB_elim h1
      have := okB_elim h2
      exact .inl ⟨Fit.of (by omega) (by omega), Fit.of (by omega) (by omega)⟩
theorem diff_fit {a b c d : Int} : (Fit (a - d) ∧ Fit (b - c)) ∨ (okB a b && okB c d) = false := by
  cases h1 : okB a b
  · exact .inr rfl
  · cases h2 : okB c d
    · exact .inr rfl
    · have := okB_elim h1
      have := okB_elim h2
      exact .inl ⟨Fit.of (by omega) (by omega), Fit.of (by omega) (by omega)⟩

end Go.Proofs.Ytkpkimhpecbkoaa
