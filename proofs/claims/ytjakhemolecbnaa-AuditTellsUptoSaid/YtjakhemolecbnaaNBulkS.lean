/-
  Rows of records that came in: their texts together are no longer than what the bound says.
-/
import Derived.Test.YtjakhemolecbnaaNM2
import Derived.Test.YtjakhemolecbnaaNJ
set_option linter.unusedVariables false
set_option linter.unusedSimpArgs false
namespace Go.Proofs.Ytjakhemolecbnaa
open Go.RowKit
section
open Go.ChangeShapes Go.WideShapes Go.ChangeAt Go.Deep
variable {H : Type} {enc : TypeId × Value → H} {w : World}

theorem bulk_map (is : List Nat) (q : Nat → Rm) (D : Nat → DataW H) (h : ∀ i ∈ is, (q i).tx.length + (q i).body.length ≤ Rows.uptoBulk (D i)) : bulkR (is.map q) ≤ Rows.uptoBulkAll (is.map D) := by
  induction is with
  | nil => simp [bulkR]
  | cons i r ih =>
    have h1 := h i (by simp)
    have h2 := ih (fun j hj => h j (by simp [hj]))
    have e : bulkR (q i :: r.map q) = ((q i).tx.length + (q i).body.length) + bulkR (r.map q) := by simp [bulkR]
    simp only [List.map_cons, Rows.uptoBulkAll]
    rw [e]
    omega
set_option maxRecDepth 100000 in
/-- An argument of records, its texts no longer than its bulk. -/
theorem arg_recsB {fuel len cap : Nat} {A : Option Addr} {x : DataW H × List MemPlace}
    (hf : DataW.trod enc Try.prog w 0 (fun _ => true) true fuel 29 (Value.slice A len cap).cells.toList = some x) (hz : ∀ n ∈ x.1.weights Try.prog 29, n ≤ reachBytes) :
    ∃ L : List Rm, L.length = len ∧ RC w A (rmc L) ∧ (∀ m ∈ L, RmIn w m) ∧ bulkR L ≤ Rows.uptoBulk x.1 := by
  rcases open_slice Try.underlying29 hf with ⟨hcs, _⟩ | ⟨a, l, c, m, n, D, Pl, hcs, _, hl, hm, hmm, rfl, hx⟩
  · simp [Value.cells] at hcs
    obtain ⟨rfl, rfl, rfl⟩ := hcs
    exact ⟨[], rfl, RC.nil _ _, (fun q hq => by cases hq), by simp [bulkR]⟩
  · simp [Value.cells] at hcs
    obtain ⟨rfl, rfl, rfl⟩ := hcs
    simp only [if_true] at hmm
    have hw := weights_elem Try.underlying29 hz
    have ce : Try.prog.cellsOf 24 = 4 := by kernel_rfl
    have each : ∀ i, i < len → ∃ q : Rm, (RmIn w q ∧ q.tx.length + q.body.length ≤ Rows.uptoBulk (D i)) ∧ ∀ j u, j < 4 → q.cells[j]? = some u → w.cell? (a.add (i * 4 + j)) = some u := by
      intro i hi
      obtain ⟨cs', h1, h2⟩ := hx i (by omega)
      rw [ce] at h1
      obtain ⟨_, hlen, hcell⟩ := World.cells?_some h1
      obtain ⟨q, rfl, hq⟩ := cells_rec h2 (hw (D i) (List.mem_map.2 ⟨i, List.mem_range.2 hi, rfl⟩))
      refine ⟨q, ⟨hq, cells_small h2 q rfl⟩, fun j u hj hu => ?_⟩
      have e := hcell j hj
      rw [Go.Deep.add_add] at e
      rw [e]
      exact hu
    haveI : Inhabited Rm := ⟨⟨0, [], none, 0, [], []⟩⟩
    obtain ⟨q, hq⟩ := choose_lt each
    refine ⟨(List.range len).map q, by simp, fun _ => ⟨a, rfl, fun j u hj => ?_⟩, fun e he => ?_, ?_⟩
    · have hjl : j < len * 4 := by
        have := (List.getElem?_eq_some_iff.1 hj).1
        rw [rmc_length] at this
        simpa using this
      have hi : j / 4 < len := by omega
      have e1 : j = j / 4 * 4 + j % 4 := by omega
      have hg := rmc_get ((List.range len).map q) (j / 4) (by simpa using hi)
      simp only [List.getElem_map, List.getElem_range] at hg
      rw [e1]
      refine (hq (j / 4) hi).2 (j % 4) u (by omega) ?_
      rw [e1] at hj
      have h4 : j % 4 = 0 ∨ j % 4 = 1 ∨ j % 4 = 2 ∨ j % 4 = 3 := by omega
      rcases h4 with h4 | h4 | h4 | h4 <;> rw [h4] at hj ⊢
      · rw [Nat.add_zero, hg.1] at hj; exact hj
      · rw [hg.2.1] at hj; exact hj
      · rw [hg.2.2.1] at hj; exact hj
      · rw [hg.2.2.2] at hj; exact hj
    · simp only [List.mem_map, List.mem_range] at he
      obtain ⟨i, hi, rfl⟩ := he
      exact (hq i hi).1.1
    · refine Nat.le_trans (bulk_map (List.range len) q D fun i hi => (hq i (List.mem_range.1 hi)).1.2) ?_
      simp only [Rows.uptoBulk]
      omega
end
end Go.Proofs.Ytjakhemolecbnaa
