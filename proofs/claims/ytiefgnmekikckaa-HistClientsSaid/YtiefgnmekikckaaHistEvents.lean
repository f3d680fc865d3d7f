/-
  An argument that is a slice of events, as it is read.
-/
import Derived.Test.YtiefgnmekikckaaReach
import Derived.Test.YtiefgnmekikckaaHistOps
set_option linter.unusedVariables false
set_option linter.unusedSimpArgs false
namespace Go.Proofs.Ytiefgnmekikckaa
open Go.RowKit

section
open Go.ChangeShapes Go.WideShapes Go.ChangeAt Go.Deep
variable {H : Type} {enc : TypeId × Value → H} {w : World}

/-- A slice of operations. -/
theorem slice_ops {fuel : Nat} {v : Value} {x : DataW H × List MemPlace}
    (hf : DataW.trod enc Try.prog w 0 (fun _ => true) true fuel 60 [v] = some x) (hz : ∀ n ∈ x.1.weights Try.prog 60, n ≤ reachBytes) :
    ∃ (A : Option Addr) (n c : Nat) (l : List Value), v = .slice A n c ∧ l.length = n * 4 ∧ n * 48 ≤ 140737488351232 ∧ RC w A l ∧ (∀ u ∈ l, u.oneCell' = true) ∧ (A = none → c = 0 ∧ n = 0) := by
  rcases open_slice Try.underlying60 hf with ⟨hcs, _⟩ | ⟨a, l, c, m, n, D, Pl, hcs, _, hl, hm, hmm, rfl, hx⟩
  · simp at hcs
    exact ⟨none, 0, 0, [], hcs, rfl, by omega, RC.nil _ _, (fun u hu => by cases hu), fun _ => ⟨rfl, rfl⟩⟩
  · simp at hcs
    simp only [if_true] at hmm
    have hlen := weights_len Try.underlying60 hz
    have eb : Try.prog.bytesOf 82 = 48 := by kernel_rfl
    rw [eb, reach_is, List.length_map, List.length_map, List.length_range, List.length_range] at hlen
    have ce : Try.prog.cellsOf 82 = 4 := by kernel_rfl
    have each : ∀ i, i < l → ∃ q : List Value, q.length = 4 ∧ (∀ u ∈ q, u.oneCell' = true) ∧ ∀ j (h : j < q.length), w.cell? (a.add (i * 4 + j)) = some q[j] := by
      intro i hi
      obtain ⟨cs', h1, h2⟩ := hx i (by omega)
      rw [ce] at h1
      obtain ⟨_, hlen, hcell⟩ := World.cells?_some h1
      obtain ⟨xs, k, hk, hxy, _, hxl, hfd⟩ := DataW.trod_struct Try.underlying82 h2
      match xs, hxl, cs', hlen with
      | [y0, y1, y2, y3], _, [v0, v1, v2, v3], _ =>
        have g0 := hfd 0 _ rfl
        have g1 := hfd 1 _ rfl
        have g2 := hfd 2 _ rfl
        have g3 := hfd 3 _ rfl
        have ci : Try.prog.cellsOf 3 = 1 := by kernel_rfl
        have cb : Try.prog.cellsOf 9 = 1 := by kernel_rfl
        simp [ci, cb] at g0 g1 g2 g3
        obtain ⟨k0, rfl, _⟩ := cell_i64 Try.underlying3 g0
        obtain ⟨s1, h1s, _, _⟩ := DataW.trod_string Try.underlying9 g1
        obtain ⟨s2, h2s, _, _⟩ := DataW.trod_string Try.underlying9 g2
        obtain ⟨k3, rfl, _⟩ := cell_i64 Try.underlying3 g3
        simp at h1s h2s
        subst h1s h2s
        refine ⟨[.int .i64 k0, .string s1, .string s2, .int .i64 k3], rfl, fun u hu => ?_, fun j hj => ?_⟩
        · simp only [List.mem_cons, List.not_mem_nil, or_false] at hu
          rcases hu with rfl | rfl | rfl | rfl <;> rfl
        · have e := hcell j (by simpa using hj)
          rw [Go.Deep.add_add] at e
          rw [e]
          simp [List.getElem?_eq_getElem hj]
    obtain ⟨q, hq⟩ := choose_lt each
    have hfl : ∀ k, k ≤ l → (((List.range k).flatMap q).length = k * 4 ∧ (∀ u ∈ (List.range k).flatMap q, u.oneCell' = true) ∧ ∀ j u, ((List.range k).flatMap q)[j]? = some u → w.cell? (a.add j) = some u) := by
      intro k
      induction k with
      | zero => intro _; exact ⟨rfl, fun u hu => by simp at hu, fun j u h => by simp at h⟩
      | succ k ih =>
        intro hk
        obtain ⟨i1, i2, i3⟩ := ih (by omega)
        obtain ⟨j1, j2, j3⟩ := hq k (by omega)
        have e : (List.range (k + 1)).flatMap q = (List.range k).flatMap q ++ q k := by rw [List.range_succ, List.flatMap_append]; simp
        rw [e]
        refine ⟨by rw [List.length_append, i1, j1]; omega, fun u hu => ?_, fun j u h => ?_⟩
        · rcases List.mem_append.1 hu with h | h
          · exact i2 u h
          · exact j2 u h
        · by_cases hj : j < k * 4
          · rw [List.getElem?_append_left (by omega)] at h
            exact i3 j u h
          · rw [List.getElem?_append_right (by omega), i1] at h
            obtain ⟨hj2, h3⟩ := List.getElem?_eq_some_iff.1 h
            have h4 := j3 (j - k * 4) hj2
            rw [show k * 4 + (j - k * 4) = j by omega] at h4
            rw [h4, h3]
    obtain ⟨f1, f2, f3⟩ := hfl l (Nat.le_refl _)
    exact ⟨some a, l, c, _, hcs, f1, by omega, fun _ => ⟨a, rfl, f3⟩, f2, fun e => by cases e⟩

/-- An event's cells. -/
theorem cells_event {fuel : Nat} {cs : List Value} {x : DataW H × List MemPlace}
    (hf : DataW.trod enc Try.prog w 0 (fun _ => true) true fuel 65 cs = some x) (hz : ∀ n ∈ x.1.weights Try.prog 65, n ≤ reachBytes) :
    ∃ q : Ev, cs = q.cells ∧ EvOk w q := by
  obtain ⟨xs, k, hk, hxy, hcl, hxl, hfd⟩ := DataW.trod_struct Try.underlying65 hf
  have ce : Try.prog.cellsOf 65 = 7 := by kernel_rfl
  rw [ce] at hcl
  match xs, hxl, cs, hcl with
  | [y0, y1, y2, y3], _, [v0, v1, v2, v3, v4, v5, v6], _ =>
    have g0 := hfd 0 _ rfl
    have g1 := hfd 1 _ rfl
    have g2 := hfd 2 _ rfl
    have g3 := hfd 3 _ rfl
    have ci : Try.prog.cellsOf 3 = 1 := by kernel_rfl
    have cs1 : Try.prog.cellsOf 60 = 1 := by kernel_rfl
    have cer : Try.prog.cellsOf 63 = 4 := by kernel_rfl
    simp [ci, cs1, cer] at g0 g1 g2 g3
    obtain ⟨kd, rfl, r0⟩ := cell_i64 Try.underlying3 g0
    obtain ⟨cl, rfl, r1⟩ := cell_i64 Try.underlying3 g1
    subst hxy
    have hw2 := weights_field Try.underlying65 hz (j := 2) rfl (by simp; rfl)
    have hw3 := weights_field Try.underlying65 hz (j := 3) rfl (by simp; rfl)
    obtain ⟨oA, on, oc, ops, rfl, o1, o2, o3, o4, o5⟩ := slice_ops g2 hw2
    obtain ⟨out, pl, why, tA, tn, tc, texts, h0, t1, t2, t3, t4, _, _, _⟩ := cells_reply g3 hw3
    simp only [List.cons.injEq, and_true] at h0
    obtain ⟨rfl, rfl, rfl, rfl⟩ := h0
    exact ⟨⟨kd, cl, oA, on, oc, ops, out, tA, tn, tc, texts, pl, why⟩, rfl, ⟨o1, Nat.le_trans o2 (by decide), o3, o4, o5, t1, Nat.le_trans t2 (by decide), t3, t4, r0, r1⟩⟩

set_option maxRecDepth 100000 in
/-- An argument of events. -/
theorem arg_events {fuel len cap : Nat} {A : Option Addr} {x : DataW H × List MemPlace}
    (hf : DataW.trod enc Try.prog w 0 (fun _ => true) true fuel 56 (Value.slice A len cap).cells.toList = some x) (hz : ∀ n ∈ x.1.weights Try.prog 56, n ≤ reachBytes) :
    ∃ L : List Ev, L.length = len ∧ len ≤ cap ∧ cap ≤ maxLen ∧ RE w A L := by
  rcases open_slice Try.underlying56 hf with ⟨hcs, _⟩ | ⟨a, l, c, m, n, D, Pl, hcs, _, hl, hm, hmm, rfl, hx⟩
  · simp [Value.cells] at hcs
    obtain ⟨rfl, rfl, rfl⟩ := hcs
    exact ⟨[], rfl, Nat.le_refl _, by simp [maxLen], ⟨RC.nil _ _, fun q hq => by cases hq⟩⟩
  · simp [Value.cells] at hcs
    obtain ⟨rfl, rfl, rfl⟩ := hcs
    simp only [if_true] at hmm
    have hw := weights_elem Try.underlying56 hz
    have ce : Try.prog.cellsOf 65 = 7 := by kernel_rfl
    have each : ∀ i, i < len → ∃ q : Ev, EvOk w q ∧ ∀ j u, j < 7 → q.cells[j]? = some u → w.cell? (a.add (i * 7 + j)) = some u := by
      intro i hi
      obtain ⟨cs', h1, h2⟩ := hx i (by omega)
      rw [ce] at h1
      obtain ⟨_, hlen, hcell⟩ := World.cells?_some h1
      obtain ⟨q, rfl, hq⟩ := cells_event h2 (hw (D i) (List.mem_map.2 ⟨i, List.mem_range.2 hi, rfl⟩))
      refine ⟨q, hq, fun j u hj hu => ?_⟩
      have e := hcell j hj
      rw [Go.Deep.add_add] at e
      rw [e]
      exact hu
    have each' : ∀ i, i < len → ∃ q : Ev, EvOk w q ∧ ∀ j u, j < 7 → q.cells[j]? = some u → w.cell? (a.add (i * 7 + j)) = some u := each
    haveI : Inhabited Ev := ⟨⟨0, 0, none, 0, 0, [], 0, none, 0, 0, [], 0, 0⟩⟩
    obtain ⟨q, hq⟩ := choose_lt each'
    refine ⟨(List.range len).map q, by simp, hl, hm, ⟨fun _ => ⟨a, rfl, fun j u hj => ?_⟩, fun e he => ?_⟩⟩
    · have hjl : j < len * 7 := by
        have := (List.getElem?_eq_some_iff.1 hj).1
        rw [ev_length] at this
        simpa using this
      have hi : j / 7 < len := by omega
      have e1 : j = j / 7 * 7 + j % 7 := by omega
      rw [e1, ev_get _ _ _ (by simpa using hi) (by omega)] at hj
      simp at hj
      rw [e1]
      exact (hq (j / 7) hi).2 (j % 7) u (by omega) hj
    · simp only [List.mem_map, List.mem_range] at he
      obtain ⟨i, hi, rfl⟩ := he
      exact (hq i hi).1
end
end Go.Proofs.Ytiefgnmekikckaa
