/-
  Arguments that are slices of ints, and slices of slices of bytes, as they are read.
-/
import Derived.Test.YtkpkimhpecbkoaaMem
import Derived.ProofKit
import Derived.Deep.Matrix
set_option linter.unusedVariables false
set_option linter.unusedSimpArgs false
namespace Go.Proofs.Ytkpkimhpecbkoaa
open Go.RowKit

/-- A slice of ints that reads as zs. -/
def RI (w : World) (A : Option Addr) (zs : List Int) : Prop :=
  0 < zs.length → ∃ ad, A = some ad ∧ ∀ j (h : j < zs.length), w.cell? (ad.add j) = some (.int .i64 zs[j]) ∧ -9223372036854775808 ≤ zs[j] ∧ zs[j] ≤ 9223372036854775807
theorem RI.step {w w' : World} {A : Option Addr} {l : List Int} (h : RI w A l) (hc : ∀ a v, w.cell? a = some v → w'.cell? a = some v) : RI w' A l := by
  intro h0
  obtain ⟨ad, e, hr⟩ := h h0
  exact ⟨ad, e, fun j hj => ⟨hc _ _ (hr j hj).1, (hr j hj).2⟩⟩
theorem RI.below {w w' : World} {A : Option Addr} {l : List Int} (h : RI w A l) (hb : Below w.heap.size w w') : RI w' A l := h.step fun _ _ => cell_below hb

/-- A slice of slices of bytes that reads as L. -/
def RBB (w : World) (A : Option Addr) (L : List (List UInt8)) : Prop :=
  0 < L.length → ∃ ad, A = some ad ∧ ∀ i (h : i < L.length), ∃ Ai ci, w.cell? (ad.add i) = some (.slice Ai L[i].length ci) ∧ L[i].length ≤ ci ∧ ci ≤ maxLen ∧ RB w Ai L[i]
theorem RBB.step {w w' : World} {A : Option Addr} {L : List (List UInt8)} (h : RBB w A L) (hc : ∀ a v, w.cell? a = some v → w'.cell? a = some v) : RBB w' A L := by
  intro h0
  obtain ⟨ad, e, hr⟩ := h h0
  refine ⟨ad, e, fun j hj => ?_⟩
  obtain ⟨Ai, ci, h1, h2, h3, h4⟩ := hr j hj
  exact ⟨Ai, ci, hc _ _ h1, h2, h3, h4.step hc⟩
theorem RBB.below {w w' : World} {A : Option Addr} {L : List (List UInt8)} (h : RBB w A L) (hb : Below w.heap.size w w') : RBB w' A L := h.step fun _ _ => cell_below hb

section
open Go.ChangeShapes Go.WideShapes Go.ChangeAt Go.Deep
variable {H : Type} {enc : TypeId × Value → H} {w : World}

theorem wf8 {n : Int} (h : (Lit.int .u8 n).wf = true) : 0 ≤ n ∧ n < 256 := by
  simp [Lit.wf, IntKind.min, IntKind.max, IntKind.signed, IntKind.bits] at h
  omega

theorem bytes_of {A : Option Addr} {len cap : Nat} {zs : List Int} (hl : len ≤ cap) (hz : zs.length = cap) (hw : ∀ n ∈ zs, (Lit.int .u8 n).wf = true) (hn : A = none → cap = 0)
    (hc : ∀ a, A = some a → ∀ i, i < cap → w.cell? (a.add i) = some (.int .u8 (zs.getD i 0))) : ∃ l : List UInt8, l.length = len ∧ RB w A l := by
  refine ⟨(zs.take len).map fun n => UInt8.ofNat n.toNat, by simp; omega, fun h0 => ?_⟩
  cases A with
  | none => have := hn rfl; simp at h0; omega
  | some a =>
    refine ⟨a, rfl, fun j hj => ?_⟩
    have hj' : j < zs.length := by simp at hj; omega
    rw [hc a rfl j (by omega)]
    have hb := wf8 (hw _ (List.getElem_mem hj'))
    simp [List.getD_eq_getElem?_getD, List.getElem?_eq_getElem hj', un8]
    omega

/-- An argument of bytes. -/
theorem arg_bytes {fuel len cap : Nat} {A : Option Addr} {x : DataW H × List MemPlace}
    (hf : DataW.trod enc Try.prog w 0 (fun _ => true) true fuel 41 (Value.slice A len cap).cells.toList = some x) : ∃ l : List UInt8, l.length = len ∧ len ≤ cap ∧ cap ≤ maxLen ∧ RB w A l := by
  rcases open_ints Try.underlying41 Try.underlying5 (by kernel_rfl) hf with ⟨hcs, _⟩ | ⟨a, l, c, zs, hcs, _, hl, hm, hz, _, hcell, hwz⟩
  · simp [Value.cells] at hcs
    obtain ⟨rfl, rfl, rfl⟩ := hcs
    exact ⟨[], rfl, Nat.le_refl _, by simp [maxLen], RB.nil _ _⟩
  · simp [Value.cells] at hcs
    obtain ⟨rfl, rfl, rfl⟩ := hcs
    simp only [if_true] at hz
    obtain ⟨l, h1, h2⟩ := bytes_of (w := w) (A := some a) hl hz hwz (fun h => by cases h) (fun a' h i hi => by cases h; exact hcell i (by omega))
    exact ⟨l, h1, hl, hm, h2⟩


end

end Go.Proofs.Ytkpkimhpecbkoaa
