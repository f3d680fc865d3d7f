/-
  Slices of strings as they are read, with the form's reach on each string.
-/
import Derived.Test.YtkpkimhpecbkoaaAskNet
import Derived.SizedLaws
set_option linter.unusedVariables false
set_option linter.unusedSimpArgs false
namespace Go.Proofs.Ytkpkimhpecbkoaa
open Go.RowKit

theorem reach_is : reachBytes = 140737488351232 := by decide
section
open Go.ChangeShapes Go.WideShapes Go.ChangeAt Go.Deep
variable {H : Type} {enc : TypeId × Value → H} {w : World}

theorem weightsAll_mem {P : Program} {e : TypeId} : ∀ {ds : List (DataW H)} {d : DataW H}, d ∈ ds → ∀ n ∈ d.weights P e, n ∈ DataW.weightsAll P e ds
  | d0 :: ds, d, hd, n, hn => by
    simp only [DataW.weightsAll, List.mem_append]
    rcases List.mem_cons.1 hd with rfl | hd
    · exact .inl hn
    · exact .inr (weightsAll_mem hd n hn)
theorem weightsEach_mem {P : Program} : ∀ {ts : List TypeId} {ds : List (DataW H)} {j : Nat} {t : TypeId} {d : DataW H}, ts[j]? = some t → ds[j]? = some d → ∀ n ∈ d.weights P t, n ∈ DataW.weightsEach P ts ds :=
  fun h1 h2 n hn => DataW.weights_mem_each h1 h2 n hn
/-- The weights of an argument. -/
theorem weights_arg {P : Program} {ts : List TypeId} {ds : List (DataW H)} {j : Nat} {t : TypeId} {d : DataW H} (h : (DataW.weightsEach P ts ds).all (· ≤ reachBytes) = true) (ht : ts[j]? = some t) (hd : ds[j]? = some d) :
    ∀ n ∈ d.weights P t, n ≤ reachBytes := fun n hn => by
  have := List.all_eq_true.1 h n (DataW.weights_mem_each ht hd n hn)
  simpa using this
theorem weights_elem {P : Program} {t e : TypeId} {els spare : List (DataW H)} (ht : P.underlying t = some (.slice e)) (h : ∀ n ∈ (DataW.slice els spare).weights P t, n ≤ reachBytes) : ∀ d ∈ els, ∀ n ∈ d.weights P e, n ≤ reachBytes := by
  intro d hd n hn
  refine h n ?_
  unfold DataW.weights
  rw [ht]
  exact List.mem_cons_of_mem _ (List.mem_append_left _ (weightsAll_mem hd n hn))

/-- An argument of strings, none beyond the form's reach. -/
theorem arg_strz {fuel len cap : Nat} {A : Option Addr} {x : DataW H × List MemPlace}
    (hf : DataW.trod enc Try.prog w 0 (fun _ => true) true fuel 57 (Value.slice A len cap).cells.toList = some x) (hz : ∀ n ∈ x.1.weights Try.prog 57, n ≤ reachBytes) :
    ∃ L : List ByteArray, L.length = len ∧ len ≤ cap ∧ cap ≤ maxLen ∧ RC w A (L.map Value.string) ∧ ∀ s ∈ L, s.size ≤ 140737488351232 := by
  rcases open_slice1 Try.underlying57 (by kernel_rfl) hf with ⟨hcs, _⟩ | ⟨a, l, c, m, n, V, D, Pl, hcs, _, hl, hm, hmm, rfl, hx⟩
  · simp [Value.cells] at hcs
    obtain ⟨rfl, rfl, rfl⟩ := hcs
    exact ⟨[], rfl, Nat.le_refl _, by simp [maxLen], RC.nil _ _, fun s hs => by cases hs⟩
  · simp [Value.cells] at hcs
    obtain ⟨rfl, rfl, rfl⟩ := hcs
    simp only [if_true] at hmm
    have hw := weights_elem Try.underlying57 hz
    have each : ∀ i, i < len → ∃ s : ByteArray, V i = .string s ∧ s.size ≤ 140737488351232 := by
      intro i hi
      obtain ⟨s, h1, h2, _⟩ := DataW.trod_string Try.underlying9 (hx i (by omega)).2
      refine ⟨s, by simpa using h1, ?_⟩
      have := hw (D i) (List.mem_map.2 ⟨i, List.mem_range.2 hi, rfl⟩) s.data.toList.length (by
        have hD : D i = .lit (.string s.data.toList) := (Prod.ext_iff.1 h2).1
        rw [hD]
        simp [DataW.weights])
      rw [data_length, reach_is] at this
      exact this
    obtain ⟨q, hq⟩ := choose_lt each
    refine ⟨(List.range len).map fun i => q i, by simp, hl, hm, fun _ => ⟨a, rfl, fun j u hj => ?_⟩, fun s hs => ?_⟩
    · have hj' : j < len := by
        have := (List.getElem?_eq_some_iff.1 hj).1
        simpa using this
      rw [(hx j (by omega)).1, (hq j hj').1]
      simp [hj'] at hj
      rw [← hj]
    · simp only [List.mem_map, List.mem_range] at hs
      obtain ⟨i, hi, rfl⟩ := hs
      exact (hq i hi).2
end
end Go.Proofs.Ytkpkimhpecbkoaa
