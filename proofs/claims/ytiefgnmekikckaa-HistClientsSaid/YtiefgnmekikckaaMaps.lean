/-
  A map from numbers to numbers that the call made, as a function.
-/
import Derived.Test.YtiefgnmekikckaaStrs
import Derived.Maps.Own
import Derived.Maps.OwnOps
import Derived.Maps.Views
set_option linter.unusedVariables false
set_option linter.unusedSimpArgs false
namespace Go.Proofs.Ytiefgnmekikckaa
open Go.RowKit Go.Maps

theorem keyed_int : Keyed Try.prog 3 := int_keyed Try.underlying3
theorem zero_int (w : World) : (zeroValue 3).run Try.prog w = .ok (.int .i64 0) w := by kernel_rfl

/-- The map at block b: f, and at most n entries. -/
def MapAt (w : World) (b n : Nat) (f : Int → Int) : Prop :=
  ∃ D : DataW Unit, w.ownsMap Try.prog 3 (plainElem Try.prog 3) b n D ∧ ∀ c : Int, D.atKey (.int .i64 c) (.lit (.int .i64 0)) = .lit (.int .i64 (f c))

theorem MapAt.made (w : World) : MapAt (w.alloc (.map #[] 0)) w.heap.size 0 (fun _ => 0) :=
  ⟨.map [], World.ownsMap_made _ _ _ _, fun c => rfl⟩
theorem MapAt.lt {w : World} {b n : Nat} {f : Int → Int} (h : MapAt w b n f) : b < w.heap.size := by
  obtain ⟨D, h1, _⟩ := h
  exact h1.lt
theorem MapAt.mono {w : World} {b n m : Nat} {f : Int → Int} (h : MapAt w b n f) (hm : n ≤ m) : MapAt w b m f := by
  obtain ⟨D, h1, h2⟩ := h
  exact ⟨D, h1.mono hm, h2⟩
theorem MapAt.upd {F : Nat → Prop} {w w' : World} {b n : Nat} {f : Int → Int} (h : MapAt w b n f) (u : Upd F w w') (hb : ¬ F b) : MapAt w' b n f := by
  obtain ⟨D, ⟨es, cl, h1, h3⟩, h2⟩ := h
  have hlt : b < w.heap.size := (Array.getElem?_eq_some_iff.1 h1).1
  exact ⟨D, ⟨es, cl, (u.block b hlt hb).trans h1, h3⟩, h2⟩
theorem MapAt.below {w w' : World} {b n : Nat} {f : Int → Int} (h : MapAt w b n f) (hb : Below w.heap.size w w') : MapAt w' b n f := h.upd (Upd.of_below (F := fun _ => False) hb) id

/-- What is read at a key. -/
theorem MapAt.look {w : World} {b n : Nat} {f : Int → Int} (h : MapAt w b n f) (c : Int) (h0 : -9223372036854775808 ≤ c) (h1 : c ≤ 9223372036854775807) :
    (Instr.lookup 79 (.map (some b)) (.int .i64 c) false).run Try.prog w = .ok (.int .i64 (f c)) w := by
  obtain ⟨D, hD, hf⟩ := h
  have hwf : (Lit.int .i64 c).wf = true := by simp [Lit.wf, IntKind.min, IntKind.max, IntKind.signed, IntKind.bits]; omega
  obtain ⟨x, hrun, hat, _⟩ := hD.lookup_int keyed_int Try.underlying79 Try.underlying3 (zero_int w) (keyOf_int_mk Try.underlying3 hwf)
  have e := (hf c).symm.trans hat
  simp only [DataW.lit.injEq, Lit.int.injEq, true_and] at e
  rw [e]
  exact hrun

theorem lit64_wf (c : Int) (h0 : -9223372036854775808 ≤ c) (h1 : c ≤ 9223372036854775807) : (Lit.int .i64 c).wf = true := by
  simp [Lit.wf, IntKind.min, IntKind.max, IntKind.signed, IntKind.bits]; omega

/-- What is written at a key, at the operation. -/
theorem wpList_put {ops : Array Oper} {rest : List Oper} {o : Oper} {a : Act} {Q : Exit → Act → World → Prop} {w : World} (hg : o.guard = none) (m x v : Operand) (hop : o.op = Op.mapUpdate 79 m x v)
    (b n : Nat) (f : Int → Int) (hm : a.eval m = .map (some b)) (h : MapAt w b n f) (hn : n ≤ 1000000) (c y : Int) (hx : a.eval x = .int .i64 c) (hv : a.eval v = .int .i64 y)
    (h0 : -9223372036854775808 ≤ c) (h1 : c ≤ 9223372036854775807) (h2 : -9223372036854775808 ≤ y) (h3 : y ≤ 9223372036854775807)
    (hK : ∀ w', MapAt w' b (n + 1) (fun z => if z = c then y else f z) → w.grownBy w' (some b) → wpList Try.prog ops Q rest (a.put o.dst undef) w') : wpList Try.prog ops Q (o :: rest) a w := by
  obtain ⟨D, hD, hf⟩ := h
  refine wpList_mapUpdate_own w hg m x v 79 hop 3 3 keyed_int Try.underlying79 (plainElem Try.prog 3) b n D hm hD (by simp only [maxLen]; omega) _ _ (.int .i64 c) hx hv (keyOf_int_mk Try.underlying3 (lit64_wf c h0 h1)) _ [] (plainElem_int Try.underlying3 (lit64_wf y h2 h3)) ?_
  intro w' h4 h5
  refine hK w' ⟨_, h4, fun z => ?_⟩ h5
  have hmap : IsMap D := by
    obtain ⟨es, cl, _, _, _, e⟩ := hD
    exact ⟨_, e⟩
  show _ = DataW.lit (Lit.int IntKind.i64 (if z = c then y else f z))
  by_cases hz : z = c
  · subst hz
    rw [if_pos rfl, atKey_put_same hmap (by trivial)]
  · rw [if_neg hz, atKey_put_other (by intro e; simp at e; exact hz e), hf]

end Go.Proofs.Ytiefgnmekikckaa
