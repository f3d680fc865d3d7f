/-
  Arguments that are slices of ints, and slices of slices of bytes, as they are read.
-/
import Derived.Test.YthlbmjjodjepjaaMem
import Derived.ProofKit
import Derived.Deep.Matrix
set_option linter.unusedVariables false
set_option linter.unusedSimpArgs false
namespace Go.Proofs.Ythlbmjjodjepjaa
open Go.RowKit

/-- A slice of ints that reads as zs. -/
def RI (w : World) (A : Option Addr) (zs : List Int) : Prop :=
  0 < zs.length → ∃ ad, A = some ad ∧ ∀ j (h : j < zs.length), w.cell? (ad.add j) = some (.int .i64 zs[j]) ∧ -9223372036854775808 ≤ zs[j] ∧ zs[j] ≤ 9223372036854775807
theorem RI.step {w w' : World} {A : Option Addr} {l : List Int} (h : RI w A l) (hc : ∀ a v, w.cell? a = some v → w'.cell? a = some v) : RI w' A l := by
  intro h0
  obtain ⟨ad, e, hr⟩ := h h0
  exact ⟨ad, e, fun j hj => ⟨hc _ _ (hr j hj).1, (hr j hj).2⟩⟩
theorem RI.below {w w' : World} {A : Option Addr} {l : List Int} (h : RI w A l) (hb : Below w.heap.size w w') : RI w' A l := h.step fun _ _ => cell_below hb

/-- A slice of slices of bytes that reads as L. -/
def RBB (w : World) (A : Option Addr) (L : List (List UInt8)) : Prop :=
  0 < L.length → ∃ ad, A = some ad ∧ ∀ i (h : i < L.length), ∃ Ai ci, w.cell? (ad.add i) = some (.slice Ai L[i].length ci) ∧ L[i].length ≤ ci ∧ ci ≤ maxLen ∧ RB w Ai L[i]
theorem RBB.step {w w' : World} {A : Option Addr} {L : List (List UInt8)} (h : RBB w A L) (hc : ∀ a v, w.cell? a = some v → w'.cell? a = some v) : RBB w' A L := by
  intro h0
  obtain ⟨ad, e, hr⟩ := h h0
  refine ⟨ad, e, fun j hj => ?_⟩
  obtain ⟨Ai, ci, h1, h2, h3, h4⟩ := hr j hj
  exact ⟨Ai, ci, hc _ _ h1, h2, h3, h4.step hc⟩
theorem RBB.below {w w' : World} {A : Option Addr} {L : List (List UInt8)} (h : RBB w A L) (hb : Below w.heap.size w w') : RBB w' A L := h.step fun _ _ => cell_below hb

section
open Go.ChangeShapes Go.WideShapes Go.ChangeAt Go.Deep
variable {H : Type} {enc : TypeId × Value → H} {w : World}

theorem wf8 {n : Int} (h : (Lit.int .u8 n).wf = true) : 0 ≤ n ∧ n < 256 := by
  simp [Lit.wf, IntKind.min, IntKind.max, IntKind.signed, IntKind.bits] at h
  omega

theorem bytes_of {A : Option Addr} {len cap : Nat} {zs : List Int} (hl : len ≤ cap) (hz : zs.length = cap) (hw : ∀ n ∈ zs, (Lit.int .u8 n).wf = true) (hn : A = none → cap = 0)
    (hc : ∀ a, A = some a → ∀ i, i < cap → w.cell? (a.add i) = some (.int .u8 (zs.getD i 0))) : ∃ l : List UInt8, l.length = len ∧ RB w A l := by
  refine ⟨(zs.take len).map fun n => UInt8.ofNat n.toNat, by simp; omega, fun h0 => ?_⟩
  cases A with
  | none => have := hn rfl; simp at h0; omega
  | some a =>
    refine ⟨a, rfl, fun j hj => ?_⟩
    have hj' : j < zs.length := by simp at hj; omega
    rw [hc a rfl j (by omega)]
    have hb := wf8 (hw _ (List.getElem_mem hj'))
    simp [List.getD_eq_getElem?_getD, List.getElem?_eq_getElem hj', un8]
    omega

/-- An argument of bytes. -/
theorem arg_bytes {fuel len cap : Nat} {A : Option Addr} {x : DataW H × List MemPlace}
    (hf : DataW.trod enc Try.prog w 0 (fun _ => true) true fuel 37 (Value.slice A len cap).cells.toList = some x) : ∃ l : List UInt8, l.length = len ∧ len ≤ cap ∧ cap ≤ maxLen ∧ RB w A l := by
  rcases open_ints Try.underlying37 Try.underlying5 (by kernel_rfl) hf with ⟨hcs, _⟩ | ⟨a, l, c, zs, hcs, _, hl, hm, hz, _, hcell, hwz⟩
  · simp [Value.cells] at hcs
    obtain ⟨rfl, rfl, rfl⟩ := hcs
    exact ⟨[], rfl, Nat.le_refl _, by simp [maxLen], RB.nil _ _⟩
  · simp [Value.cells] at hcs
    obtain ⟨rfl, rfl, rfl⟩ := hcs
    simp only [if_true] at hz
    obtain ⟨l, h1, h2⟩ := bytes_of (w := w) (A := some a) hl hz hwz (fun h => by cases h) (fun a' h i hi => by cases h; exact hcell i (by omega))
    exact ⟨l, h1, hl, hm, h2⟩

/-- An argument of ints. -/
theorem arg_ints {fuel len cap : Nat} {A : Option Addr} {x : DataW H × List MemPlace}
    (hf : DataW.trod enc Try.prog w 0 (fun _ => true) true fuel 47 (Value.slice A len cap).cells.toList = some x) : ∃ l : List Int, l.length = len ∧ len ≤ cap ∧ cap ≤ maxLen ∧ RI w A l := by
  rcases open_ints Try.underlying47 Try.underlying3 (by kernel_rfl) hf with ⟨hcs, _⟩ | ⟨a, l, c, zs, hcs, _, hl, hm, hz, _, hcell, hwz⟩
  · simp [Value.cells] at hcs
    obtain ⟨rfl, rfl, rfl⟩ := hcs
    exact ⟨[], rfl, Nat.le_refl _, by simp [maxLen], fun h => absurd h (by simp)⟩
  · simp [Value.cells] at hcs
    obtain ⟨rfl, rfl, rfl⟩ := hcs
    simp only [if_true] at hz
    refine ⟨zs.take len, by simp; omega, hl, hm, fun _ => ⟨a, rfl, fun j hj => ?_⟩⟩
    have hj' : j < zs.length := by simp at hj; omega
    have h1 := hcell j (by omega)
    have h2 := wf64 (hwz _ (List.getElem_mem hj'))
    simp [List.getD_eq_getElem?_getD, List.getElem?_eq_getElem hj'] at h1 ⊢
    exact ⟨h1, h2⟩

/-- An argument of slices of bytes. -/
theorem arg_rows {fuel len cap : Nat} {A : Option Addr} {x : DataW H × List MemPlace}
    (hf : DataW.trod enc Try.prog w 0 (fun _ => true) true fuel 79 (Value.slice A len cap).cells.toList = some x) : ∃ L : List (List UInt8), L.length = len ∧ len ≤ cap ∧ cap ≤ maxLen ∧ RBB w A L := by
  rcases open_int_rows Try.underlying79 Try.underlying37 Try.underlying5 (by kernel_rfl) (by kernel_rfl) hf with ⟨hcs, _⟩ | ⟨a, l, c, A', L, C, Z, hcs, _, hl, hm, _, hx⟩
  · simp [Value.cells] at hcs
    obtain ⟨rfl, rfl, rfl⟩ := hcs
    exact ⟨[], rfl, Nat.le_refl _, by simp [maxLen], fun h => absurd h (by simp)⟩
  · simp [Value.cells] at hcs
    obtain ⟨rfl, rfl, rfl⟩ := hcs
    have each : ∀ r, r < len → ∃ lr : List UInt8, lr.length = L r ∧ RB w (A' r) lr := by
      intro r hr
      obtain ⟨h1, h2, h3, h4, h5, h6, h7⟩ := hx r (by omega)
      exact bytes_of h2 h4 h5 h6 (fun a' ha i hi => (h7 a' ha).2 i hi)
    obtain ⟨F, hF⟩ := choose_lt (α := List UInt8) (p := fun r lr => lr.length = L r ∧ RB w (A' r) lr) each
    refine ⟨(List.range len).map F, by simp, hl, hm, fun _ => ⟨a, rfl, fun i hi => ?_⟩⟩
    have hi' : i < len := by simpa using hi
    obtain ⟨h1, h2, h3, _⟩ := hx i (by omega)
    have e : ((List.range len).map F)[i] = F i := by simp
    rw [e, (hF i hi').1]
    exact ⟨A' i, C i, h1, h2, h3, (hF i hi').2⟩
end

end Go.Proofs.Ythlbmjjodjepjaa
