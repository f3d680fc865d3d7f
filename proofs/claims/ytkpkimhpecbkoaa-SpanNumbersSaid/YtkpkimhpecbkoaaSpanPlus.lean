/-
  Contracts of package span in the forms that the laws ask for.
-/
import Derived.Test.YtkpkimhpecbkoaaSpanLaws
set_option linter.unusedVariables false
set_option linter.unusedSimpArgs false
namespace Go.Proofs.Ytkpkimhpecbkoaa
open Go.RowKit

section
variable (a b c d M N : Int) (w : World)
theorem meet_is (h1 : okB a b = true) (h2 : okB c d = true) (hM : M = max a c) (hN : N = min b d) (h3 : okB M N = true) :
    Calls Try.prog 22 #[.complex .f64 (fl a) (fl b), .complex .f64 (fl c) (fl d)] w fun e w' => e = .returned (.tuple #[.complex .f64 (fl M) (fl N), .bool true]) ∧ w = w' := by
  subst hM hN
  exact meet_yes a b c d w h1 h2 h3
theorem hull_is (h1 : okB a b = true) (h2 : okB c d = true) (hM : M = min a c) (hN : N = max b d) :
    Calls Try.prog 24 #[.complex .f64 (fl a) (fl b), .complex .f64 (fl c) (fl d)] w fun e w' => e = .returned (.complex .f64 (fl M) (fl N)) ∧ w = w' := by
  subst hM hN
  exact hull_any a b c d w h1 h2
end
theorem self_eq {a : Int} (h : Fit a) : (FloatKind.f64.format.order (fl a) (fl a) == some .eq) = true := by rw [eq_b h h, decide_eq_true rfl]

end Go.Proofs.Ytkpkimhpecbkoaa
