/-
  A slice of calls of a net (four numbers, a string), as it is read.
-/
import Derived.Test.YtkpkimhpecbkoaaArgs
import Derived.ProofKit
import Derived.Deep.Strs
import Derived.Deep.Grids
import Derived.Deep.SlicePairs
set_option linter.unusedVariables false
set_option linter.unusedSimpArgs false
namespace Go.Proofs.Ytkpkimhpecbkoaa
open Go.RowKit

/-- One call: its kind, two nodes, a number, a string. -/
structure Ask where
  kind : Int
  frm : Int
  dst : Int
  num : Int
  str : ByteArray
instance : Inhabited Ask := ⟨⟨0, 0, 0, 0, ByteArray.empty⟩⟩
def in64 (k : Int) : Prop := -9223372036854775808 ≤ k ∧ k ≤ 9223372036854775807
structure AskAt (w : World) (ad : Addr) (i : Nat) (q : Ask) : Prop where
  c0 : w.cell? (ad.add (i * 5)) = some (.int .i64 q.kind)
  c1 : w.cell? (ad.add (i * 5 + 1)) = some (.int .i64 q.frm)
  c2 : w.cell? (ad.add (i * 5 + 2)) = some (.int .i64 q.dst)
  c3 : w.cell? (ad.add (i * 5 + 3)) = some (.int .i64 q.num)
  c4 : w.cell? (ad.add (i * 5 + 4)) = some (.string q.str)
  r0 : in64 q.kind
  r1 : in64 q.frm
  r2 : in64 q.dst
  r3 : in64 q.num
/-- A slice of calls that reads as L. -/
def RL (w : World) (A : Option Addr) (L : List Ask) : Prop :=
  0 < L.length → ∃ ad, A = some ad ∧ ∀ i (h : i < L.length), AskAt w ad i L[i]
theorem AskAt.below {w w' : World} {ad : Addr} {i : Nat} {q : Ask} (h : AskAt w ad i q) (hb : Below w.heap.size w w') : AskAt w' ad i q :=
  ⟨cell_below hb h.c0, cell_below hb h.c1, cell_below hb h.c2, cell_below hb h.c3, cell_below hb h.c4, h.r0, h.r1, h.r2, h.r3⟩
/-- The address by its parts. -/
theorem RL.parts {w : World} {A : Option Addr} {L : List Ask} (h : RL w A L) (h0 : 0 < L.length) : ∃ b o, A = some ⟨b, o, none⟩ ∧ ∀ i (h : i < L.length), AskAt w ⟨b, o, none⟩ i L[i] := by
  obtain ⟨⟨b, o, sp⟩, e, hc⟩ := h h0
  have hsp : sp = none := by
    have g0 := (hc 0 h0).c0
    simp only [Nat.zero_mul, Addr.add, if_true] at g0
    unfold World.cell? at g0
    cases sp with
    | none => rfl
    | some s => simp at g0; split at g0 <;> simp at g0
  subst hsp
  exact ⟨b, o, e, hc⟩

section
open Go.ChangeShapes Go.WideShapes Go.ChangeAt Go.Deep
variable {H : Type} {enc : TypeId × Value → H} {w : World}

theorem cell_int6 {fuel : Nat} {v : Value} {x : DataW H × List MemPlace} (hf : DataW.trod enc Try.prog w 0 (fun _ => true) true fuel 3 [v] = some x) :
    ∃ n : Int, v = .int .i64 n ∧ -9223372036854775808 ≤ n ∧ n ≤ 9223372036854775807 := by
  obtain ⟨n, h1, h2, h3⟩ := DataW.trod_int Try.underlying3 hf
  have hw := wf64 h3
  exact ⟨n, by simpa using h1, hw.1, hw.2⟩

set_option maxRecDepth 100000 in
theorem arg_asks {fuel len cap : Nat} {A : Option Addr} {x : DataW H × List MemPlace}
    (hf : DataW.trod enc Try.prog w 0 (fun _ => true) true fuel 51 (Value.slice A len cap).cells.toList = some x) : ∃ L : List Ask, L.length = len ∧ len ≤ cap ∧ cap ≤ maxLen ∧ RL w A L := by
  rcases open_slice Try.underlying51 hf with ⟨hcs, _⟩ | ⟨a, l, c, m, n, D, Pl, hcs, _, hl, hm, hmm, _, hx⟩
  · simp [Value.cells] at hcs
    obtain ⟨rfl, rfl, rfl⟩ := hcs
    exact ⟨[], rfl, Nat.le_refl _, by simp [maxLen], fun h => absurd h (by simp)⟩
  · simp [Value.cells] at hcs
    obtain ⟨rfl, rfl, rfl⟩ := hcs
    simp only [if_true] at hmm
    have ce : Try.prog.cellsOf 54 = 5 := by kernel_rfl
    have each : ∀ i, i < len → ∃ q : Ask, AskAt w a i q := by
      intro i hi
      obtain ⟨cs', h1, h2⟩ := hx i (by omega)
      rw [ce] at h1
      obtain ⟨_, hlen, hcell⟩ := World.cells?_some h1
      obtain ⟨xs, k, hk, hxy, _, hxl, hfd⟩ := DataW.trod_struct Try.underlying54 h2
      match xs, hxl, cs', hlen with
      | [y0, y1, y2, y3, y4], _, [v0, v1, v2, v3, v4], _ =>
        have g0 := hfd 0 _ rfl
        have g1 := hfd 1 _ rfl
        have g2 := hfd 2 _ rfl
        have g3 := hfd 3 _ rfl
        have g4 := hfd 4 _ rfl
        have ci : Try.prog.cellsOf 3 = 1 := by kernel_rfl
        have cb : Try.prog.cellsOf 9 = 1 := by kernel_rfl
        simp [ci, cb] at g0 g1 g2 g3 g4
        have e0 := hcell 0 (by omega)
        have e1 := hcell 1 (by omega)
        have e2 := hcell 2 (by omega)
        have e3 := hcell 3 (by omega)
        have e4 := hcell 4 (by omega)
        rw [Go.Deep.add_add] at e0 e1 e2 e3 e4
        obtain ⟨k0, rfl, r0⟩ := cell_int6 g0
        obtain ⟨k1, rfl, r1⟩ := cell_int6 g1
        obtain ⟨k2, rfl, r2⟩ := cell_int6 g2
        obtain ⟨k3, rfl, r3⟩ := cell_int6 g3
        obtain ⟨s4, h4s, _, _⟩ := DataW.trod_string Try.underlying9 g4
        simp at h4s
        subst h4s
        exact ⟨⟨k0, k1, k2, k3, s4⟩, by simpa using e0, by simpa using e1, by simpa using e2, by simpa using e3, by simpa using e4, r0, r1, r2, r3⟩
    obtain ⟨q, hq⟩ := choose_lt each
    refine ⟨(List.range len).map fun i => q i, by simp, hl, hm, fun _ => ⟨a, rfl, fun i hi => ?_⟩⟩
    have hi' : i < len := by simpa using hi
    have e : ((List.range len).map fun i => q i)[i] = q i := by simp
    rw [e]
    exact hq i hi'
end
end Go.Proofs.Ytkpkimhpecbkoaa
