/-
  The texts Ok20 of this proof in one (what is used of them): what each proves is said at its head. No conditions beyond those that each theorem says.
-/
import Derived.Test.YtjakhemolecbnaaNF3
import Derived.Test.YtjakhemolecbnaaNG
import Derived.Test.YtjakhemolecbnaaNG4

/-
  When claims that are read whole have no fault (plain Lean).
-/
section
set_option linter.unusedVariables false
set_option linter.unusedSimpArgs false
namespace Go.Proofs.Ytjakhemolecbnaa
open Go.RowKit

/-- What is asked of the records of two claims. -/
def crossP (c d : Cp) : Prop := ∀ m ∈ c.recs, (m.kind = 3 → d.recs.any (ofPp 4 m.tx) = false ∧ d.recs.any (strPp m.tx m.groups) = false) ∧ (m.kind = 4 → d.recs.any (ofPp 3 m.tx) = false)
def prefP (c d : Cp) : Prop := c.group = d.group → c.M.take (min c.M.length d.M.length) = d.M.take (min c.M.length d.M.length)
structure PairP (c d : Cp) : Prop where
  p : prefP c d
  x : crossP c d
  y : crossP d c
theorem PairP.symm {c d : Cp} (h : PairP c d) : PairP d c := ⟨fun e => by rw [Nat.min_comm]; exact (h.p e.symm).symm, h.y, h.x⟩

end Go.Proofs.Ytjakhemolecbnaa
end
