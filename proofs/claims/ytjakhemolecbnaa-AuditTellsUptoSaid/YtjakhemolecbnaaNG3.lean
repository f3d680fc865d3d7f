/-
  The texts Args, Arg20 of this proof in one (what is used of them): what each proves is said at its head. No conditions beyond those that each theorem says.
-/
import Derived.ProofKit
import Derived.Deep.Matrix
import Derived.Deep.Strs
import Derived.Deep.Grids
import Derived.Deep.SlicePairs
import Derived.SizedLaws
import Derived.Test.YtjakhemolecbnaaNA
import Derived.Test.YtjakhemolecbnaaNA2

/-
  Arguments that are slices of ints, and slices of slices of bytes, as they are read.
-/
section
set_option linter.unusedVariables false
set_option linter.unusedSimpArgs false
namespace Go.Proofs.Ytjakhemolecbnaa
open Go.RowKit

/-- A slice of ints that reads as zs. -/
def RI (w : World) (A : Option Addr) (zs : List Int) : Prop :=
  0 < zs.length → ∃ ad, A = some ad ∧ ∀ j (h : j < zs.length), w.cell? (ad.add j) = some (.int .i64 zs[j]) ∧ -9223372036854775808 ≤ zs[j] ∧ zs[j] ≤ 9223372036854775807
theorem RI.step {w w' : World} {A : Option Addr} {l : List Int} (h : RI w A l) (hc : ∀ a v, w.cell? a = some v → w'.cell? a = some v) : RI w' A l := by
  intro h0
  obtain ⟨ad, e, hr⟩ := h h0
  exact ⟨ad, e, fun j hj => ⟨hc _ _ (hr j hj).1, (hr j hj).2⟩⟩
theorem RI.below {w w' : World} {A : Option Addr} {l : List Int} (h : RI w A l) (hb : Below w.heap.size w w') : RI w' A l := h.step fun _ _ => cell_below hb

/-- A slice of slices of bytes that reads as L. -/
def RBB (w : World) (A : Option Addr) (L : List (List UInt8)) : Prop :=
  0 < L.length → ∃ ad, A = some ad ∧ ∀ i (h : i < L.length), ∃ Ai ci, w.cell? (ad.add i) = some (.slice Ai L[i].length ci) ∧ L[i].length ≤ ci ∧ ci ≤ maxLen ∧ RB w Ai L[i]
theorem RBB.step {w w' : World} {A : Option Addr} {L : List (List UInt8)} (h : RBB w A L) (hc : ∀ a v, w.cell? a = some v → w'.cell? a = some v) : RBB w' A L := by
  intro h0
  obtain ⟨ad, e, hr⟩ := h h0
  refine ⟨ad, e, fun j hj => ?_⟩
  obtain ⟨Ai, ci, h1, h2, h3, h4⟩ := hr j hj
  exact ⟨Ai, ci, hc _ _ h1, h2, h3, h4.step hc⟩
theorem RBB.below {w w' : World} {A : Option Addr} {L : List (List UInt8)} (h : RBB w A L) (hb : Below w.heap.size w w') : RBB w' A L := h.step fun _ _ => cell_below hb

section
open Go.ChangeShapes Go.WideShapes Go.ChangeAt Go.Deep
variable {H : Type} {enc : TypeId × Value → H} {w : World}

theorem wf8 {n : Int} (h : (Lit.int .u8 n).wf = true) : 0 ≤ n ∧ n < 256 := by
  simp [Lit.wf, IntKind.min, IntKind.max, IntKind.signed, IntKind.bits] at h
  omega

theorem bytes_of {A : Option Addr} {len cap : Nat} {zs : List Int} (hl : len ≤ cap) (hz : zs.length = cap) (hw : ∀ n ∈ zs, (Lit.int .u8 n).wf = true) (hn : A = none → cap = 0)
    (hc : ∀ a, A = some a → ∀ i, i < cap → w.cell? (a.add i) = some (.int .u8 (zs.getD i 0))) : ∃ l : List UInt8, l.length = len ∧ RB w A l := by
  refine ⟨(zs.take len).map fun n => UInt8.ofNat n.toNat, by simp; omega, fun h0 => ?_⟩
  cases A with
  | none => have := hn rfl; simp at h0; omega
  | some a =>
    refine ⟨a, rfl, fun j hj => ?_⟩
    have hj' : j < zs.length := by simp at hj; omega
    rw [hc a rfl j (by omega)]
    have hb := wf8 (hw _ (List.getElem_mem hj'))
    simp [List.getD_eq_getElem?_getD, List.getElem?_eq_getElem hj', un8]
    omega

/-- An argument of bytes. -/
theorem arg_bytes {fuel len cap : Nat} {A : Option Addr} {x : DataW H × List MemPlace}
    (hf : DataW.trod enc Try.prog w 0 (fun _ => true) true fuel 25 (Value.slice A len cap).cells.toList = some x) : ∃ l : List UInt8, l.length = len ∧ len ≤ cap ∧ cap ≤ maxLen ∧ RB w A l := by
  rcases open_ints Try.underlying25 Try.underlying5 (by kernel_rfl) hf with ⟨hcs, _⟩ | ⟨a, l, c, zs, hcs, _, hl, hm, hz, _, hcell, hwz⟩
  · simp [Value.cells] at hcs
    obtain ⟨rfl, rfl, rfl⟩ := hcs
    exact ⟨[], rfl, Nat.le_refl _, by simp [maxLen], RB.nil _ _⟩
  · simp [Value.cells] at hcs
    obtain ⟨rfl, rfl, rfl⟩ := hcs
    simp only [if_true] at hz
    obtain ⟨l, h1, h2⟩ := bytes_of (w := w) (A := some a) hl hz hwz (fun h => by cases h) (fun a' h i hi => by cases h; exact hcell i (by omega))
    exact ⟨l, h1, hl, hm, h2⟩

/-- An argument of ints. -/
theorem arg_ints {fuel len cap : Nat} {A : Option Addr} {x : DataW H × List MemPlace}
    (hf : DataW.trod enc Try.prog w 0 (fun _ => true) true fuel 22 (Value.slice A len cap).cells.toList = some x) : ∃ l : List Int, l.length = len ∧ len ≤ cap ∧ cap ≤ maxLen ∧ RI w A l := by
  rcases open_ints Try.underlying22 Try.underlying3 (by kernel_rfl) hf with ⟨hcs, _⟩ | ⟨a, l, c, zs, hcs, _, hl, hm, hz, _, hcell, hwz⟩
  · simp [Value.cells] at hcs
    obtain ⟨rfl, rfl, rfl⟩ := hcs
    exact ⟨[], rfl, Nat.le_refl _, by simp [maxLen], fun h => absurd h (by simp)⟩
  · simp [Value.cells] at hcs
    obtain ⟨rfl, rfl, rfl⟩ := hcs
    simp only [if_true] at hz
    refine ⟨zs.take len, by simp; omega, hl, hm, fun _ => ⟨a, rfl, fun j hj => ?_⟩⟩
    have hj' : j < zs.length := by simp at hj; omega
    have h1 := hcell j (by omega)
    have h2 := wf64 (hwz _ (List.getElem_mem hj'))
    simp [List.getD_eq_getElem?_getD, List.getElem?_eq_getElem hj'] at h1 ⊢
    exact ⟨h1, h2⟩

end

end Go.Proofs.Ytjakhemolecbnaa
end

/-
  Arguments that are records, and slices of records, as they are read.
-/
section
set_option linter.unusedVariables false
set_option linter.unusedSimpArgs false
namespace Go.Proofs.Ytjakhemolecbnaa
open Go.RowKit

theorem reach_is : reachBytes = 140737488351232 := by decide
section
open Go.ChangeShapes Go.WideShapes Go.ChangeAt Go.Deep
variable {H : Type} {enc : TypeId × Value → H} {w : World}

theorem weightsAll_mem {P : Program} {e : TypeId} : ∀ {ds : List (DataW H)} {d : DataW H}, d ∈ ds → ∀ n ∈ d.weights P e, n ∈ DataW.weightsAll P e ds
  | d0 :: ds, d, hd, n, hn => by
    simp only [DataW.weightsAll, List.mem_append]
    rcases List.mem_cons.1 hd with rfl | hd
    · exact .inl hn
    · exact .inr (weightsAll_mem hd n hn)
theorem weights_arg {P : Program} {ts : List TypeId} {ds : List (DataW H)} {j : Nat} {t : TypeId} {d : DataW H} (h : (DataW.weightsEach P ts ds).all (· ≤ reachBytes) = true) (ht : ts[j]? = some t) (hd : ds[j]? = some d) :
    ∀ n ∈ d.weights P t, n ≤ reachBytes := fun n hn => by
  have := List.all_eq_true.1 h n (DataW.weights_mem_each ht hd n hn)
  simpa using this
theorem weights_elem {P : Program} {t e : TypeId} {els spare : List (DataW H)} (ht : P.underlying t = some (.slice e)) (h : ∀ n ∈ (DataW.slice els spare).weights P t, n ≤ reachBytes) : ∀ d ∈ els, ∀ n ∈ d.weights P e, n ≤ reachBytes := by
  intro d hd n hn
  refine h n ?_
  unfold DataW.weights
  rw [ht]
  exact List.mem_cons_of_mem _ (List.mem_append_left _ (weightsAll_mem hd n hn))
theorem weights_len {P : Program} {t e : TypeId} {els spare : List (DataW H)} (ht : P.underlying t = some (.slice e)) (h : ∀ n ∈ (DataW.slice els spare).weights P t, n ≤ reachBytes) : (els.length + spare.length) * P.bytesOf e ≤ reachBytes := by
  refine h _ ?_
  unfold DataW.weights
  rw [ht]
  exact List.mem_cons_self ..
theorem weights_field {P : Program} {t : TypeId} {fs : Array Field} {parts : List (DataW H)} (ht : P.underlying t = some (.struct fs)) (h : ∀ n ∈ (DataW.agg parts).weights P t, n ≤ reachBytes) {j : Nat} {f : Field} {d : DataW H} (hf : fs[j]? = some f) (hd : parts[j]? = some d) :
    ∀ n ∈ d.weights P f.type, n ≤ reachBytes := by
  intro n hn
  refine h n ?_
  unfold DataW.weights
  rw [ht]
  exact DataW.weights_mem_each (j := j) (t := f.type) (d := d) (by rw [List.getElem?_map, Array.getElem?_toList, hf]; rfl) hd n hn

theorem cell_i64 {fuel : Nat} {t : TypeId} {v : Value} {x : DataW H × List MemPlace} (ht : Try.prog.underlying t = some (.int .i64)) (hf : DataW.trod enc Try.prog w 0 (fun _ => true) true fuel t [v] = some x) :
    ∃ n : Int, v = .int .i64 n ∧ -9223372036854775808 ≤ n ∧ n ≤ 9223372036854775807 := by
  obtain ⟨n, h1, h2, h3⟩ := DataW.trod_int ht hf
  have hw := wf64 h3
  exact ⟨n, by simpa using h1, hw.1, hw.2⟩

set_option maxRecDepth 100000
/-- A slice of ints. -/
theorem slice_ints {fuel : Nat} {v : Value} {x : DataW H × List MemPlace}
    (hf : DataW.trod enc Try.prog w 0 (fun _ => true) true fuel 22 [v] = some x) (hz : ∀ n ∈ x.1.weights Try.prog 22, n ≤ reachBytes) :
    ∃ (A : Option Addr) (c : Nat) (zs : List Int), v = .slice A zs.length c ∧ zs.length ≤ c ∧ zs.length * 8 ≤ 140737488351232 ∧ RG w A zs ∧ (∀ z ∈ zs, -9223372036854775808 ≤ z ∧ z ≤ 9223372036854775807) ∧ (A = none → c = 0) := by
  have hb : Try.prog.bytesOf 3 = 8 := by kernel_rfl
  rcases open_slice1 Try.underlying22 (by kernel_rfl) hf with ⟨hcs, _⟩ | ⟨a, l, c, m, n, V, D, Pl, hcs, _, hl, hm, hmm, rfl, hx⟩
  · simp at hcs
    exact ⟨none, 0, [], hcs, Nat.le_refl _, by simp, fun h => absurd h (by simp), (fun z hz => by cases hz), fun _ => rfl⟩
  · simp at hcs
    simp only [if_true] at hmm
    have hlen := weights_len Try.underlying22 hz
    rw [hb, reach_is, List.length_map, List.length_map, List.length_range, List.length_range] at hlen
    have each : ∀ i, i < l → ∃ z : Int, V i = .int .i64 z ∧ -9223372036854775808 ≤ z ∧ z ≤ 9223372036854775807 := by
      intro i hi
      obtain ⟨n, h1, h2, h3⟩ := DataW.trod_int Try.underlying3 (hx i (by omega)).2
      have hw := wf64 h3
      exact ⟨n, by simpa using h1, hw.1, hw.2⟩
    obtain ⟨q, hq⟩ := choose_lt each
    refine ⟨some a, c, (List.range l).map q, by simpa using hcs, by simpa using hl, by simp; omega, fun _ => ⟨a, rfl, fun j u hj => ?_⟩, fun z hz => ?_, fun e => by cases e⟩
    · have hj' : j < l := by
        have := (List.getElem?_eq_some_iff.1 hj).1
        simpa using this
      rw [(hx j (by omega)).1, (hq j hj').1]
      simp [hj'] at hj
      rw [← hj]
    · obtain ⟨i, hi, rfl⟩ := List.mem_map.1 hz
      exact (hq i (List.mem_range.1 hi)).2

/-- A record that came in. -/
structure RmIn (w : World) (m : Rm) : Prop where
  k : -9223372036854775808 ≤ m.kind ∧ m.kind ≤ 9223372036854775807
  tx : m.tx.length ≤ 140737488351232
  bd : m.body.length ≤ 140737488351232
  g : RG w m.A m.groups
  gc : m.groups.length ≤ m.c
  gl : m.groups.length * 8 ≤ 140737488351232
  gz : ∀ z ∈ m.groups, -9223372036854775808 ≤ z ∧ z ≤ 9223372036854775807
theorem RmIn.below {w w' : World} {m : Rm} (h : RmIn w m) (hb : Below w.heap.size w w') : RmIn w' m := ⟨h.k, h.tx, h.bd, h.g.below hb, h.gc, h.gl, h.gz⟩
set_option maxRecDepth 100000 in
/-- A record's cells. -/
theorem cells_rec {fuel : Nat} {cs : List Value} {x : DataW H × List MemPlace}
    (hf : DataW.trod enc Try.prog w 0 (fun _ => true) true fuel 24 cs = some x) (hz : ∀ n ∈ x.1.weights Try.prog 24, n ≤ reachBytes) :
    ∃ m : Rm, cs = m.cells ∧ RmIn w m := by
  obtain ⟨xs, k, hk, hxy, hcl, hxl, hfd⟩ := DataW.trod_struct Try.underlying24 hf
  have ce : Try.prog.cellsOf 24 = 4 := by kernel_rfl
  rw [ce] at hcl
  match xs, hxl, cs, hcl with
  | [y0, y1, y2, y3], _, [v0, v1, v2, v3], _ =>
    have g0 := hfd 0 _ rfl
    have g1 := hfd 1 _ rfl
    have g2 := hfd 2 _ rfl
    have g3 := hfd 3 _ rfl
    have ci : Try.prog.cellsOf 3 = 1 := by kernel_rfl
    have cb : Try.prog.cellsOf 9 = 1 := by kernel_rfl
    have cg : Try.prog.cellsOf 22 = 1 := by kernel_rfl
    simp [ci, cb, cg] at g0 g1 g2 g3
    obtain ⟨kd, rfl, r0⟩ := cell_i64 Try.underlying3 g0
    obtain ⟨s1, h1s, h1d, _⟩ := DataW.trod_string Try.underlying9 g1
    obtain ⟨s3, h3s, h3d, _⟩ := DataW.trod_string Try.underlying9 g3
    simp at h1s h3s
    subst h1s h3s
    subst hxy
    have hw1 := weights_field Try.underlying24 hz (j := 1) rfl (by simp; rfl)
    have hw2 := weights_field Try.underlying24 hz (j := 2) rfl (by simp; rfl)
    have hw3 := weights_field Try.underlying24 hz (j := 3) rfl (by simp; rfl)
    obtain ⟨A, c, zs, rfl, z1, z2, z3, z4, z5⟩ := slice_ints g2 hw2
    have l1 : s1.data.toList.length ≤ 140737488351232 := by
      have e : y1.1 = .lit (.string s1.data.toList) := (Prod.ext_iff.1 h1d).1
      have := hw1 s1.data.toList.length (by rw [e]; simp [DataW.weights])
      rwa [reach_is] at this
    have l3 : s3.data.toList.length ≤ 140737488351232 := by
      have e : y3.1 = .lit (.string s3.data.toList) := (Prod.ext_iff.1 h3d).1
      have := hw3 s3.data.toList.length (by rw [e]; simp [DataW.weights])
      rwa [reach_is] at this
    refine ⟨⟨kd, s1.data.toList, A, c, zs, s3.data.toList⟩, ?_, ⟨r0, l1, l3, z3, z1, z2, z4⟩⟩
    rfl

/-- An argument that is a record. -/
theorem arg_rec {fuel : Nat} {v : Value} {b0 : Nat} {x : DataW H × List MemPlace}
    (hf : DataW.trod enc Try.prog w 0 (fun _ => true) true fuel 24 v.cells.toList = some x) (hval : Value.okWide Try.prog w .any b0 24 v) (hz : ∀ n ∈ x.1.weights Try.prog 24, n ≤ reachBytes) :
    ∃ m : Rm, v = .agg m.cells.toArray ∧ RmIn w m := by
  obtain ⟨cs, rfl, _⟩ := okWide_struct Try.underlying24 hval
  obtain ⟨m, h0, h⟩ := cells_rec hf hz
  refine ⟨m, ?_, h⟩
  have : cs.toList = m.cells := h0
  congr 1
  apply Array.ext'
  rw [this]

set_option maxRecDepth 100000 in
/-- An argument of records. -/
theorem arg_recs {fuel len cap : Nat} {A : Option Addr} {x : DataW H × List MemPlace}
    (hf : DataW.trod enc Try.prog w 0 (fun _ => true) true fuel 29 (Value.slice A len cap).cells.toList = some x) (hz : ∀ n ∈ x.1.weights Try.prog 29, n ≤ reachBytes) :
    ∃ L : List Rm, L.length = len ∧ len ≤ cap ∧ cap ≤ maxLen ∧ RC w A (rmc L) ∧ ∀ m ∈ L, RmIn w m := by
  rcases open_slice Try.underlying29 hf with ⟨hcs, _⟩ | ⟨a, l, c, m, n, D, Pl, hcs, _, hl, hm, hmm, rfl, hx⟩
  · simp [Value.cells] at hcs
    obtain ⟨rfl, rfl, rfl⟩ := hcs
    exact ⟨[], rfl, Nat.le_refl _, by simp [maxLen], RC.nil _ _, fun q hq => by cases hq⟩
  · simp [Value.cells] at hcs
    obtain ⟨rfl, rfl, rfl⟩ := hcs
    simp only [if_true] at hmm
    have hw := weights_elem Try.underlying29 hz
    have ce : Try.prog.cellsOf 24 = 4 := by kernel_rfl
    have each : ∀ i, i < len → ∃ q : Rm, RmIn w q ∧ ∀ j u, j < 4 → q.cells[j]? = some u → w.cell? (a.add (i * 4 + j)) = some u := by
      intro i hi
      obtain ⟨cs', h1, h2⟩ := hx i (by omega)
      rw [ce] at h1
      obtain ⟨_, hlen, hcell⟩ := World.cells?_some h1
      obtain ⟨q, rfl, hq⟩ := cells_rec h2 (hw (D i) (List.mem_map.2 ⟨i, List.mem_range.2 hi, rfl⟩))
      refine ⟨q, hq, fun j u hj hu => ?_⟩
      have e := hcell j hj
      rw [Go.Deep.add_add] at e
      rw [e]
      exact hu
    haveI : Inhabited Rm := ⟨⟨0, [], none, 0, [], []⟩⟩
    obtain ⟨q, hq⟩ := choose_lt each
    refine ⟨(List.range len).map q, by simp, hl, hm, fun _ => ⟨a, rfl, fun j u hj => ?_⟩, fun e he => ?_⟩
    · have hjl : j < len * 4 := by
        have := (List.getElem?_eq_some_iff.1 hj).1
        rw [rmc_length] at this
        simpa using this
      have hi : j / 4 < len := by omega
      have e1 : j = j / 4 * 4 + j % 4 := by omega
      have hg := rmc_get ((List.range len).map q) (j / 4) (by simpa using hi)
      simp only [List.getElem_map, List.getElem_range] at hg
      rw [e1]
      refine (hq (j / 4) hi).2 (j % 4) u (by omega) ?_
      rw [e1] at hj
      have h4 : j % 4 = 0 ∨ j % 4 = 1 ∨ j % 4 = 2 ∨ j % 4 = 3 := by omega
      rcases h4 with h4 | h4 | h4 | h4 <;> rw [h4] at hj ⊢
      · rw [Nat.add_zero, hg.1] at hj; exact hj
      · rw [hg.2.1] at hj; exact hj
      · rw [hg.2.2.1] at hj; exact hj
      · rw [hg.2.2.2] at hj; exact hj
    · simp only [List.mem_map, List.mem_range] at he
      obtain ⟨i, hi, rfl⟩ := he
      exact (hq i hi).1
end
end Go.Proofs.Ytjakhemolecbnaa
end
