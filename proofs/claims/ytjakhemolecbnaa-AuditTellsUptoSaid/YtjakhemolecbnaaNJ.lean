/-
  The texts Bulk20 of this proof in one (what is used of them): what each proves is said at its head. No conditions beyond those that each theorem says.
-/
import Derived.Test.YtjakhemolecbnaaRows
import Derived.Test.YtjakhemolecbnaaNG3

/-
  What the bound on what comes in says of records.
-/
section
set_option linter.unusedVariables false
set_option linter.unusedSimpArgs false
namespace Go.Proofs.Ytjakhemolecbnaa
open Go.RowKit
section
open Go.ChangeShapes Go.WideShapes Go.ChangeAt Go.Deep
variable {H : Type} {enc : TypeId × Value → H} {w : World}

theorem bulk_part {d : DataW H} : ∀ {l : List (DataW H)}, d ∈ l → Rows.uptoBulk d ≤ Rows.uptoBulkAll l
  | x :: r, h => by
    simp only [Rows.uptoBulkAll]
    rcases List.mem_cons.1 h with rfl | h
    · omega
    · have := bulk_part h
      omega
theorem bulk_of {d : DataW H} {l : List (DataW H)} (hk : Rows.uptoSmall H l = true) (h : d ∈ l) : Rows.uptoBulk d ≤ 1048576 := by
  have h1 : Rows.uptoBulkAll l ≤ 1048576 := of_decide_eq_true hk
  exact Nat.le_trans (bulk_part h) h1
set_option maxRecDepth 100000 in
/-- A record's cells, its texts no longer than its bulk. -/
theorem cells_small {fuel : Nat} {cs : List Value} {x : DataW H × List MemPlace}
    (hf : DataW.trod enc Try.prog w 0 (fun _ => true) true fuel 24 cs = some x) (m : Rm) (hm : cs = m.cells) : m.tx.length + m.body.length ≤ Rows.uptoBulk x.1 := by
  subst hm
  obtain ⟨xs, k, hk, hxy, hcl, hxl, hfd⟩ := DataW.trod_struct Try.underlying24 hf
  match xs, hxl with
  | [y0, y1, y2, y3], _ =>
    have g1 := hfd 1 _ rfl
    have g3 := hfd 3 _ rfl
    have ci : Try.prog.cellsOf 3 = 1 := by kernel_rfl
    have cb : Try.prog.cellsOf 9 = 1 := by kernel_rfl
    have cg : Try.prog.cellsOf 22 = 1 := by kernel_rfl
    simp [ci, cb, cg, Rm.cells] at g1 g3
    obtain ⟨s1, h1s, h1d, _⟩ := DataW.trod_string Try.underlying9 g1
    obtain ⟨s3, h3s, h3d, _⟩ := DataW.trod_string Try.underlying9 g3
    simp at h1s h3s
    subst hxy
    have e1 : y1.1 = .lit (.string s1.data.toList) := (Prod.ext_iff.1 h1d).1
    have e3 : y3.1 = .lit (.string s3.data.toList) := (Prod.ext_iff.1 h3d).1
    simp only [Rows.uptoBulk, Rows.uptoBulkAll, List.map_cons, List.map_nil, e1, e3]
    have l1 : s1.data.toList = m.tx := by rw [← h1s]; exact strB_toList _
    have l3 : s3.data.toList = m.body := by rw [← h3s]; exact strB_toList _
    rw [l1, l3]
    omega
end
end Go.Proofs.Ytjakhemolecbnaa
end
