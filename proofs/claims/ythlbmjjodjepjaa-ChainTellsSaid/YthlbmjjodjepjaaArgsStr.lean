/-
  Arguments that are slices of strings, as they are read.
-/
import Derived.Test.YthlbmjjodjepjaaWal
import Derived.ProofKit
import Derived.Deep.Strs
import Derived.Deep.Grids
set_option linter.unusedVariables false
set_option linter.unusedSimpArgs false
namespace Go.Proofs.Ythlbmjjodjepjaa
open Go.RowKit

section
open Go.ChangeShapes Go.WideShapes Go.ChangeAt Go.Deep
variable {H : Type} {enc : TypeId × Value → H} {w : World}

/-- An argument of strings. -/
theorem arg_strs {fuel len cap : Nat} {A : Option Addr} {x : DataW H × List MemPlace}
    (hf : DataW.trod enc Try.prog w 0 (fun _ => true) true fuel 22 (Value.slice A len cap).cells.toList = some x) : ∃ L : List (List UInt8), L.length = len ∧ len ≤ cap ∧ cap ≤ maxLen ∧ RS w A L := by
  rcases open_strs Try.underlying22 Try.underlying9 (by kernel_rfl) hf with ⟨hcs, _⟩ | ⟨a, l, c, m, Sx, hcs, _, hl, hm, hmm, _, hcell⟩
  · simp [Value.cells] at hcs
    obtain ⟨rfl, rfl, rfl⟩ := hcs
    exact ⟨[], rfl, Nat.le_refl _, by simp [maxLen], RC.nil _ _⟩
  · simp [Value.cells] at hcs
    obtain ⟨rfl, rfl, rfl⟩ := hcs
    refine ⟨(List.range len).map fun i => (Sx i).data.toList, by simp, hl, hm, fun _ => ⟨a, rfl, fun j u hj => ?_⟩⟩
    have hj' : j < len := by
      have := (List.getElem?_eq_some_iff.1 hj).1
      simpa [sv] using this
    have h1 := (hcell j (by simp only [if_true] at hmm; omega)).1
    rw [h1]
    simp [sv, hj'] at hj
    rw [← hj]

/-- An argument of bools. -/
theorem arg_bools {fuel len cap : Nat} {A : Option Addr} {x : DataW H × List MemPlace}
    (hf : DataW.trod enc Try.prog w 0 (fun _ => true) true fuel 38 (Value.slice A len cap).cells.toList = some x) : ∃ L : List Bool, L.length = len ∧ len ≤ cap ∧ cap ≤ maxLen ∧ RC w A (L.map Value.bool) := by
  rcases open_bools Try.underlying38 Try.underlying4 (by kernel_rfl) hf with ⟨hcs, _⟩ | ⟨a, l, c, Bx, hcs, _, hl, hm, _, hcell⟩
  · simp [Value.cells] at hcs
    obtain ⟨rfl, rfl, rfl⟩ := hcs
    exact ⟨[], rfl, Nat.le_refl _, by simp [maxLen], RC.nil _ _⟩
  · simp [Value.cells] at hcs
    obtain ⟨rfl, rfl, rfl⟩ := hcs
    refine ⟨(List.range len).map Bx, by simp, hl, hm, fun _ => ⟨a, rfl, fun j u hj => ?_⟩⟩
    have hj' : j < len := by
      have := (List.getElem?_eq_some_iff.1 hj).1
      simpa using this
    rw [hcell j (by omega)]
    simp [hj'] at hj
    rw [← hj]
end

end Go.Proofs.Ythlbmjjodjepjaa
