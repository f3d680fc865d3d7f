/-
  The form's reach on what lies in arguments: slices and structs of strings.
-/
import Derived.Test.YtiefgnmekikckaaHist
import Derived.ProofKit
import Derived.Deep.Strs
import Derived.Deep.Grids
import Derived.Deep.SlicePairs
import Derived.SizedLaws
set_option linter.unusedVariables false
set_option linter.unusedSimpArgs false
namespace Go.Proofs.Ytiefgnmekikckaa
open Go.RowKit

theorem reach_is : reachBytes = 140737488351232 := by decide
section
open Go.ChangeShapes Go.WideShapes Go.ChangeAt Go.Deep
variable {H : Type} {enc : TypeId × Value → H} {w : World}

theorem weightsAll_mem {P : Program} {e : TypeId} : ∀ {ds : List (DataW H)} {d : DataW H}, d ∈ ds → ∀ n ∈ d.weights P e, n ∈ DataW.weightsAll P e ds
  | d0 :: ds, d, hd, n, hn => by
    simp only [DataW.weightsAll, List.mem_append]
    rcases List.mem_cons.1 hd with rfl | hd
    · exact .inl hn
    · exact .inr (weightsAll_mem hd n hn)
theorem weights_arg {P : Program} {ts : List TypeId} {ds : List (DataW H)} {j : Nat} {t : TypeId} {d : DataW H} (h : (DataW.weightsEach P ts ds).all (· ≤ reachBytes) = true) (ht : ts[j]? = some t) (hd : ds[j]? = some d) :
    ∀ n ∈ d.weights P t, n ≤ reachBytes := fun n hn => by
  have := List.all_eq_true.1 h n (DataW.weights_mem_each ht hd n hn)
  simpa using this
theorem weights_elem {P : Program} {t e : TypeId} {els spare : List (DataW H)} (ht : P.underlying t = some (.slice e)) (h : ∀ n ∈ (DataW.slice els spare).weights P t, n ≤ reachBytes) : ∀ d ∈ els, ∀ n ∈ d.weights P e, n ≤ reachBytes := by
  intro d hd n hn
  refine h n ?_
  unfold DataW.weights
  rw [ht]
  exact List.mem_cons_of_mem _ (List.mem_append_left _ (weightsAll_mem hd n hn))
theorem weights_len {P : Program} {t e : TypeId} {els spare : List (DataW H)} (ht : P.underlying t = some (.slice e)) (h : ∀ n ∈ (DataW.slice els spare).weights P t, n ≤ reachBytes) : (els.length + spare.length) * P.bytesOf e ≤ reachBytes := by
  refine h _ ?_
  unfold DataW.weights
  rw [ht]
  exact List.mem_cons_self ..
theorem weights_field {P : Program} {t : TypeId} {fs : Array Field} {parts : List (DataW H)} (ht : P.underlying t = some (.struct fs)) (h : ∀ n ∈ (DataW.agg parts).weights P t, n ≤ reachBytes) {j : Nat} {f : Field} {d : DataW H} (hf : fs[j]? = some f) (hd : parts[j]? = some d) :
    ∀ n ∈ d.weights P f.type, n ≤ reachBytes := by
  intro n hn
  refine h n ?_
  unfold DataW.weights
  rw [ht]
  exact DataW.weights_mem_each (j := j) (t := f.type) (d := d) (by rw [List.getElem?_map, Array.getElem?_toList, hf]; rfl) hd n hn

theorem cell_i64 {fuel : Nat} {t : TypeId} {v : Value} {x : DataW H × List MemPlace} (ht : Try.prog.underlying t = some (.int .i64)) (hf : DataW.trod enc Try.prog w 0 (fun _ => true) true fuel t [v] = some x) :
    ∃ n : Int, v = .int .i64 n ∧ -9223372036854775808 ≤ n ∧ n ≤ 9223372036854775807 := by
  obtain ⟨n, h1, h2, h3⟩ := DataW.trod_int ht hf
  have hw := wf64 h3
  exact ⟨n, by simpa using h1, hw.1, hw.2⟩

/-- A slice of strings. -/
theorem slice_strs {fuel : Nat} {v : Value} {x : DataW H × List MemPlace}
    (hf : DataW.trod enc Try.prog w 0 (fun _ => true) true fuel 61 [v] = some x) (hz : ∀ n ∈ x.1.weights Try.prog 61, n ≤ reachBytes) :
    ∃ (A : Option Addr) (n c : Nat) (L : List (List UInt8)), v = .slice A n c ∧ L.length = n ∧ n * 16 ≤ 140737488351232 ∧ RS w A L ∧ (A = none → c = 0 ∧ n = 0) := by
  rcases open_slice1 Try.underlying61 (by kernel_rfl) hf with ⟨hcs, _⟩ | ⟨a, l, c, m, n, V, D, Pl, hcs, _, hl, hm, hmm, rfl, hx⟩
  · simp at hcs
    exact ⟨none, 0, 0, [], hcs, rfl, by omega, RC.nil _ _, fun _ => ⟨rfl, rfl⟩⟩
  · simp at hcs
    simp only [if_true] at hmm
    have hlen := weights_len Try.underlying61 hz
    have eb : Try.prog.bytesOf 9 = 16 := by kernel_rfl
    rw [eb, reach_is, List.length_map, List.length_map, List.length_range, List.length_range] at hlen
    have each : ∀ i, i < l → ∃ s : ByteArray, V i = .string s := by
      intro i hi
      obtain ⟨s, h1, _, _⟩ := DataW.trod_string Try.underlying9 (hx i (by omega)).2
      exact ⟨s, by simpa using h1⟩
    obtain ⟨q, hq⟩ := choose_lt each
    refine ⟨some a, l, c, (List.range l).map fun i => (q i).data.toList, hcs, by simp, by omega, fun _ => ⟨a, rfl, fun j u hj => ?_⟩, fun e => by cases e⟩
    have hj' : j < l := by
      have := (List.getElem?_eq_some_iff.1 hj).1
      simpa [sv] using this
    rw [(hx j (by omega)).1, hq j hj']
    simp [sv, hj'] at hj
    rw [← hj]

/-- A reply. -/
theorem cells_reply {fuel : Nat} {cs : List Value} {x : DataW H × List MemPlace}
    (hf : DataW.trod enc Try.prog w 0 (fun _ => true) true fuel 63 cs = some x) (hz : ∀ n ∈ x.1.weights Try.prog 63, n ≤ reachBytes) :
    ∃ (o tt y : Int) (A : Option Addr) (n c : Nat) (L : List (List UInt8)), cs = [.int .i64 o, .slice A n c, .int .i64 tt, .int .i64 y] ∧ L.length = n ∧ n * 16 ≤ 140737488351232 ∧ RS w A L ∧ (A = none → c = 0 ∧ n = 0) ∧
      (-9223372036854775808 ≤ o ∧ o ≤ 9223372036854775807) ∧ (-9223372036854775808 ≤ tt ∧ tt ≤ 9223372036854775807) ∧ (-9223372036854775808 ≤ y ∧ y ≤ 9223372036854775807) := by
  obtain ⟨xs, k, hk, hxy, hcl, hxl, hfd⟩ := DataW.trod_struct Try.underlying63 hf
  have ce : Try.prog.cellsOf 63 = 4 := by kernel_rfl
  rw [ce] at hcl
  match xs, hxl, cs, hcl with
  | [y0, y1, y2, y3], _, [v0, v1, v2, v3], _ =>
    have g0 := hfd 0 _ rfl
    have g1 := hfd 1 _ rfl
    have g2 := hfd 2 _ rfl
    have g3 := hfd 3 _ rfl
    have ci : Try.prog.cellsOf 3 = 1 := by kernel_rfl
    have cs1 : Try.prog.cellsOf 61 = 1 := by kernel_rfl
    have cer : Try.prog.cellsOf 34 = 1 := by kernel_rfl
    simp [ci, cs1, cer] at g0 g1 g2 g3
    obtain ⟨o, rfl, r0⟩ := cell_i64 Try.underlying3 g0
    obtain ⟨tt, rfl, r2⟩ := cell_i64 Try.underlying3 g2
    obtain ⟨y, rfl, r3⟩ := cell_i64 Try.underlying34 g3
    subst hxy
    have hw1 := weights_field Try.underlying63 hz (j := 1) rfl (by simp; rfl)
    obtain ⟨A, n, c, L, rfl, h1, h2, h3, h4⟩ := slice_strs g1 hw1
    exact ⟨o, tt, y, A, n, c, L, rfl, h1, h2, h3, h4, r0, r2, r3⟩

/-- An argument that is a reply. -/
theorem arg_reply {fuel : Nat} {v : Value} {b0 : Nat} {x : DataW H × List MemPlace}
    (hf : DataW.trod enc Try.prog w 0 (fun _ => true) true fuel 63 v.cells.toList = some x) (hval : Value.okWide Try.prog w .any b0 63 v) (hz : ∀ n ∈ x.1.weights Try.prog 63, n ≤ reachBytes) :
    ∃ (o tt y : Int) (A : Option Addr) (n c : Nat) (L : List (List UInt8)), v = .agg #[.int .i64 o, .slice A n c, .int .i64 tt, .int .i64 y] ∧ L.length = n ∧ n * 16 ≤ 140737488351232 ∧ RS w A L ∧ (A = none → c = 0 ∧ n = 0) ∧
      (-9223372036854775808 ≤ o ∧ o ≤ 9223372036854775807) ∧ (-9223372036854775808 ≤ tt ∧ tt ≤ 9223372036854775807) ∧ (-9223372036854775808 ≤ y ∧ y ≤ 9223372036854775807) := by
  obtain ⟨cs, rfl, _⟩ := okWide_struct Try.underlying63 hval
  obtain ⟨o, tt, y, A, n, c, L, h0, h⟩ := cells_reply hf hz
  refine ⟨o, tt, y, A, n, c, L, ?_, h⟩
  have : cs.toList = [.int .i64 o, .slice A n c, .int .i64 tt, .int .i64 y] := h0
  congr 1
  apply Array.ext'
  rw [this]
end
end Go.Proofs.Ytiefgnmekikckaa
