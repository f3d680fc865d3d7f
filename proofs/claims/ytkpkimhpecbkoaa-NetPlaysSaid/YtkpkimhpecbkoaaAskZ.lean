/-
  A slice of calls of a net, none of whose strings lies beyond the form's reach.
-/
import Derived.Test.YtkpkimhpecbkoaaSized
set_option linter.unusedVariables false
set_option linter.unusedSimpArgs false
namespace Go.Proofs.Ytkpkimhpecbkoaa
open Go.RowKit
section
open Go.ChangeShapes Go.WideShapes Go.ChangeAt Go.Deep
variable {H : Type} {enc : TypeId × Value → H} {w : World}
theorem weights_field {P : Program} {t : TypeId} {fs : Array Field} {parts : List (DataW H)} (ht : P.underlying t = some (.struct fs)) (h : ∀ n ∈ (DataW.agg parts).weights P t, n ≤ reachBytes) {j : Nat} {f : Field} {d : DataW H} (hf : fs[j]? = some f) (hd : parts[j]? = some d) :
    ∀ n ∈ d.weights P f.type, n ≤ reachBytes := by
  intro n hn
  refine h n ?_
  unfold DataW.weights
  rw [ht]
  exact DataW.weights_mem_each (j := j) (t := f.type) (d := d) (by rw [List.getElem?_map, Array.getElem?_toList, hf]; rfl) hd n hn

set_option maxRecDepth 100000 in
theorem arg_askz {fuel len cap : Nat} {A : Option Addr} {x : DataW H × List MemPlace}
    (hf : DataW.trod enc Try.prog w 0 (fun _ => true) true fuel 51 (Value.slice A len cap).cells.toList = some x) (hz : ∀ n ∈ x.1.weights Try.prog 51, n ≤ reachBytes) :
    ∃ L : List Ask, L.length = len ∧ len ≤ cap ∧ cap ≤ maxLen ∧ RL w A L ∧ ∀ q ∈ L, q.str.size ≤ 140737488351232 := by
  rcases open_slice Try.underlying51 hf with ⟨hcs, _⟩ | ⟨a, l, c, m, n, D, Pl, hcs, _, hl, hm, hmm, rfl, hx⟩
  · simp [Value.cells] at hcs
    obtain ⟨rfl, rfl, rfl⟩ := hcs
    exact ⟨[], rfl, Nat.le_refl _, by simp [maxLen], fun h => absurd h (by simp), fun q hq => by cases hq⟩
  · simp [Value.cells] at hcs
    obtain ⟨rfl, rfl, rfl⟩ := hcs
    simp only [if_true] at hmm
    have hw := weights_elem Try.underlying51 hz
    have ce : Try.prog.cellsOf 54 = 5 := by kernel_rfl
    have each : ∀ i, i < len → ∃ q : Ask, AskAt w a i q ∧ q.str.size ≤ 140737488351232 := by
      intro i hi
      obtain ⟨cs', h1, h2⟩ := hx i (by omega)
      have hwi := hw (D i) (List.mem_map.2 ⟨i, List.mem_range.2 hi, rfl⟩)
      rw [ce] at h1
      obtain ⟨_, hlen, hcell⟩ := World.cells?_some h1
      obtain ⟨xs, k, hk, hxy, _, hxl, hfd⟩ := DataW.trod_struct Try.underlying54 h2
      match xs, hxl, cs', hlen with
      | [y0, y1, y2, y3, y4], _, [v0, v1, v2, v3, v4], _ =>
        have g0 := hfd 0 _ rfl
        have g1 := hfd 1 _ rfl
        have g2 := hfd 2 _ rfl
        have g3 := hfd 3 _ rfl
        have g4 := hfd 4 _ rfl
        have ci : Try.prog.cellsOf 3 = 1 := by kernel_rfl
        have cb : Try.prog.cellsOf 9 = 1 := by kernel_rfl
        simp [ci, cb] at g0 g1 g2 g3 g4
        have e0 := hcell 0 (by omega)
        have e1 := hcell 1 (by omega)
        have e2 := hcell 2 (by omega)
        have e3 := hcell 3 (by omega)
        have e4 := hcell 4 (by omega)
        rw [Go.Deep.add_add] at e0 e1 e2 e3 e4
        obtain ⟨k0, rfl, r0⟩ := cell_int6 g0
        obtain ⟨k1, rfl, r1⟩ := cell_int6 g1
        obtain ⟨k2, rfl, r2⟩ := cell_int6 g2
        obtain ⟨k3, rfl, r3⟩ := cell_int6 g3
        obtain ⟨s4, h4s, h4d, _⟩ := DataW.trod_string Try.underlying9 g4
        simp at h4s
        subst h4s
        have hD : y4.1 = .lit (.string s4.data.toList) := (Prod.ext_iff.1 h4d).1
        have hxy1 : D i = .agg [y0.1, y1.1, y2.1, y3.1, y4.1] := by
          have := (Prod.ext_iff.1 hxy).1
          simpa using this
        rw [hxy1] at hwi
        have h4w := weights_field Try.underlying54 hwi (j := 4) rfl rfl s4.data.toList.length (by rw [hD]; simp [DataW.weights])
        rw [data_length, reach_is] at h4w
        exact ⟨⟨k0, k1, k2, k3, s4⟩, ⟨by simpa using e0, by simpa using e1, by simpa using e2, by simpa using e3, by simpa using e4, r0, r1, r2, r3⟩, h4w⟩
    obtain ⟨q, hq⟩ := choose_lt each
    refine ⟨(List.range len).map fun i => q i, by simp, hl, hm, fun _ => ⟨a, rfl, fun i hi => ?_⟩, fun z hz => ?_⟩
    · have hi' : i < len := by simpa using hi
      have e : ((List.range len).map fun i => q i)[i] = q i := by simp
      rw [e]
      exact (hq i hi').1
    · simp only [List.mem_map, List.mem_range] at hz
      obtain ⟨i, hi, rfl⟩ := hz
      exact (hq i hi).2
end
end Go.Proofs.Ytkpkimhpecbkoaa
