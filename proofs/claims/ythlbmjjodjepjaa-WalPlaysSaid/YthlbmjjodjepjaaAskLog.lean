/-
  A slice of calls of a log (number, number, string), as it is read.
-/
import Derived.Test.YthlbmjjodjepjaaArgsStr
import Derived.Test.YthlbmjjodjepjaaArgs
import Derived.Deep.SlicePairs
set_option linter.unusedVariables false
set_option linter.unusedSimpArgs false
namespace Go.Proofs.Ythlbmjjodjepjaa
open Go.RowKit

/-- A slice of calls that reads as L. -/
def RL (w : World) (A : Option Addr) (L : List (Int × Int × List UInt8)) : Prop :=
  0 < L.length → ∃ ad, A = some ad ∧ ∀ i (h : i < L.length), w.cell? (ad.add (i * 3)) = some (.int .i64 L[i].1) ∧ w.cell? (ad.add (i * 3 + 1)) = some (.int .i64 L[i].2.1) ∧ w.cell? (ad.add (i * 3 + 2)) = some (.string (strB L[i].2.2)) ∧
    (-9223372036854775808 ≤ L[i].2.1 ∧ L[i].2.1 ≤ 9223372036854775807) ∧ (-9223372036854775808 ≤ L[i].1 ∧ L[i].1 ≤ 9223372036854775807)

section
open Go.ChangeShapes Go.WideShapes Go.ChangeAt Go.Deep
variable {H : Type} {enc : TypeId × Value → H} {w : World}

theorem cell_int6 {fuel : Nat} {v : Value} {x : DataW H × List MemPlace} (hf : DataW.trod enc Try.prog w 0 (fun _ => true) true fuel 3 [v] = some x) :
    ∃ n : Int, v = .int .i64 n ∧ -9223372036854775808 ≤ n ∧ n ≤ 9223372036854775807 := by
  obtain ⟨n, h1, h2, h3⟩ := DataW.trod_int Try.underlying3 hf
  have hw := wf64 h3
  exact ⟨n, by simpa using h1, hw.1, hw.2⟩

set_option maxRecDepth 100000 in
theorem arg_asks {fuel len cap : Nat} {A : Option Addr} {x : DataW H × List MemPlace}
    (hf : DataW.trod enc Try.prog w 0 (fun _ => true) true fuel 67 (Value.slice A len cap).cells.toList = some x) : ∃ L : List (Int × Int × List UInt8), L.length = len ∧ len ≤ cap ∧ cap ≤ maxLen ∧ RL w A L := by
  rcases open_slice Try.underlying67 hf with ⟨hcs, _⟩ | ⟨a, l, c, m, n, D, Pl, hcs, _, hl, hm, hmm, _, hx⟩
  · simp [Value.cells] at hcs
    obtain ⟨rfl, rfl, rfl⟩ := hcs
    exact ⟨[], rfl, Nat.le_refl _, by simp [maxLen], fun h => absurd h (by simp)⟩
  · simp [Value.cells] at hcs
    obtain ⟨rfl, rfl, rfl⟩ := hcs
    simp only [if_true] at hmm
    have ce : Try.prog.cellsOf 69 = 3 := by kernel_rfl
    have each : ∀ i, i < len → ∃ q : Int × Int × List UInt8, w.cell? (a.add (i * 3)) = some (.int .i64 q.1) ∧ w.cell? (a.add (i * 3 + 1)) = some (.int .i64 q.2.1) ∧ w.cell? (a.add (i * 3 + 2)) = some (.string (strB q.2.2)) ∧
        (-9223372036854775808 ≤ q.2.1 ∧ q.2.1 ≤ 9223372036854775807) ∧ (-9223372036854775808 ≤ q.1 ∧ q.1 ≤ 9223372036854775807) := by
      intro i hi
      obtain ⟨cs', h1, h2⟩ := hx i (by omega)
      rw [ce] at h1
      obtain ⟨_, hlen, hcell⟩ := World.cells?_some h1
      obtain ⟨xs, k, hk, hxy, _, hxl, hfd⟩ := DataW.trod_struct Try.underlying69 h2
      match xs, hxl, cs', hlen with
      | [y0, y1, y2], _, [v0, v1, v2], _ =>
        have g0 := hfd 0 _ rfl
        have g1 := hfd 1 _ rfl
        have g2 := hfd 2 _ rfl
        have ci : Try.prog.cellsOf 3 = 1 := by kernel_rfl
        have cb : Try.prog.cellsOf 9 = 1 := by kernel_rfl
        simp [ci, cb] at g0 g1 g2
        have e0 := hcell 0 (by omega)
        have e1 := hcell 1 (by omega)
        have e2 := hcell 2 (by omega)
        rw [Go.Deep.add_add] at e0 e1 e2
        obtain ⟨k0, rfl, r0⟩ := cell_int6 g0
        obtain ⟨k1, rfl, r1⟩ := cell_int6 g1
        obtain ⟨s2, h2s, _, _⟩ := DataW.trod_string Try.underlying9 g2
        simp at h2s
        subst h2s
        exact ⟨(k0, k1, s2.data.toList), by simpa using e0, by simpa using e1, by simpa [strB_data] using e2, r1, r0⟩
    obtain ⟨q, hq⟩ := choose_lt each
    refine ⟨(List.range len).map fun i => q i, by simp, hl, hm, fun _ => ⟨a, rfl, fun i hi => ?_⟩⟩
    have hi' : i < len := by simpa using hi
    have e : ((List.range len).map fun i => q i)[i] = q i := by simp
    rw [e]
    exact hq i hi'
end
end Go.Proofs.Ythlbmjjodjepjaa
