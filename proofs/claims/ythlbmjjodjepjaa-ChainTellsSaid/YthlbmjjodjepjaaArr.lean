/-
  Arrays of words that stand in a block of their own.
-/
import Derived.Test.YthlbmjjodjepjaaRot
import Derived.Test.YthlbmjjodjepjaaMem
import Derived.Deep.MidRow
set_option linter.unusedVariables false
set_option linter.unusedSimpArgs false
namespace Go.Proofs.Ythlbmjjodjepjaa
open Go.RowKit

def W32 (x : UInt32) : Value := .int .u32 (un32 x)
def wv (l : List UInt32) : List Value := l.map W32
theorem wv_length (l : List UInt32) : (wv l).length = l.length := by simp [wv]
theorem wv_get (l : List UInt32) (i : Nat) (h : i < l.length) : (wv l)[i]? = some (W32 (wd l i)) := by simp [wv, wd, List.getElem?_eq_getElem h]
theorem wv_one (l : List UInt32) : ∀ v ∈ wv l, v.oneCell' = true := by
  intro v hv
  simp only [wv, List.mem_map] at hv
  obtain ⟨q, _, rfl⟩ := hv
  rfl

/-- What is read, at the address's own parts. -/
theorem RB.parts {w : World} {A : Option Addr} {l : List UInt8} (h : RB w A l) (h0 : 0 < l.length) :
    ∃ b o, A = some ⟨b, o, none⟩ ∧ ∀ j (hj : j < l.length), w.cell? ⟨b, o + j, none⟩ = some (.int .u8 (un8 l[j])) := by
  obtain ⟨⟨b, o, sp⟩, e, hc⟩ := h h0
  have hsp : sp = none := by
    have := hc 0 h0
    simp only [Addr.add, if_true] at this
    unfold World.cell? at this
    cases sp with
    | none => rfl
    | some s => simp at this; split at this <;> simp at this
  subst hsp
  exact ⟨b, o, e, fun j hj => by rw [← add_off]; exact hc j hj⟩

/-- Block g holds the array xs. -/
def Arr (w : World) (g : Nat) (t : TypeId) (xs : List Value) : Prop := w.heap[g]? = some (.cells xs.toArray t)
theorem Arr.lt {w : World} {g : Nat} {t : TypeId} {xs : List Value} (h : Arr w g t xs) : g < w.heap.size := (Array.getElem?_eq_some_iff.1 h).1
theorem Arr.cell {w : World} {g : Nat} {t : TypeId} {xs : List Value} (h : Arr w g t xs) {i : Nat} {v : Value} (hi : xs[i]? = some v) : w.cell? ⟨g, i, none⟩ = some v := by
  rw [cell_of_row w g i xs.toArray t (0, 0) h]
  simpa using hi
theorem Arr.word {w : World} {g : Nat} {t : TypeId} {l : List UInt32} (h : Arr w g t (wv l)) {i : Nat} (hi : i < l.length) : w.cell? ⟨g, i, none⟩ = some (.int .u32 (un32 (wd l i))) := h.cell (wv_get l i hi)
theorem Arr.byte {w : World} {g : Nat} {t : TypeId} {l : List UInt8} (h : Arr w g t (bv l)) {i : Nat} (hi : i < l.length) : w.cell? ⟨g, i, none⟩ = some (.int .u8 (un8 l[i])) := h.cell (bv_get l i hi)
theorem Arr.frozen {w : World} {g : Nat} {t : TypeId} {xs : List Value} (h : Arr w g t xs) (i : Nat) : w.frozen? ⟨g, i, none⟩ = false := by
  unfold World.frozen?
  simp [show w.heap[g]? = some (.cells xs.toArray t) from h]
theorem Arr.new (w : World) (t : TypeId) (xs : List Value) : Arr (w.alloc (.cells xs.toArray t)) w.heap.size t xs := heap_alloc_new w _
theorem Arr.new_at (w : World) (t : TypeId) (xs : List Value) (g : Nat) (hg : g = w.heap.size) : Arr (w.alloc (.cells xs.toArray t)) g t xs := by subst hg; exact heap_alloc_new w _
theorem Arr.below {B : Nat} {w w' : World} {g : Nat} {t : TypeId} {xs : List Value} (h : Arr w g t xs) (hb : Below B w w') (hB : g < B) : Arr w' g t xs := (hb.block g hB).trans h
theorem Arr.upd {F : Nat → Prop} {w w' : World} {g : Nat} {t : TypeId} {xs : List Value} (h : Arr w g t xs) (hb : Upd F w w') (hF : ¬ F g) : Arr w' g t xs := (hb.block g h.lt hF).trans h
theorem Arr.alloc {w : World} {g : Nat} {t : TypeId} {xs : List Value} (h : Arr w g t xs) (o : Obj) : Arr (w.alloc o) g t xs := (Below.heap_alloc w o g h.lt).trans h
theorem Arr.drew {w : World} {g : Nat} {t : TypeId} {xs : List Value} (h : Arr w g t xs) : Arr w.drew g t xs := h
theorem Arr.set {w : World} {g : Nat} {t : TypeId} {xs : List Value} (h : Arr w g t xs) (i : Nat) (v : Value) : Arr (w.setCell ⟨g, i, none⟩ v) g t (xs.set i v) := by
  have hlt := h.lt
  have h' : w.heap[g]? = some (.cells xs.toArray t) := h
  have h2 : w.heap[g] = .cells xs.toArray t := (Array.getElem?_eq_some_iff.1 h').2
  unfold Arr World.setCell
  simp [Array.getElem?_modify, h']
theorem Arr.set_other {w : World} {g : Nat} {t : TypeId} {xs : List Value} (h : Arr w g t xs) (p : Addr) (hp : p.block ≠ g) (v : Value) : Arr (w.setCell p v) g t xs :=
  (Below.heap_setCell w p v g (fun e => hp e.symm)).trans h
theorem below_setRow {B : Nat} {w wr : World} (h : Below B w wr) (g : Nat) (cs : Array Value) (hg : B ≤ g) : Below B w (wr.setRow g cs) :=
  h.trans ⟨rfl, rfl, rfl, by simp, fun i hi => setRow_other wr g i cs (by omega)⟩
theorem upd_setRow {F : Nat → Prop} {w wr : World} (h : Upd F w wr) (g : Nat) (cs : Array Value) (hg : g < w.heap.size → F g) : Upd F w (wr.setRow g cs) :=
  ⟨h.os, h.tape, h.output, by have := h.size; simp; omega, fun k hk hn => (setRow_other wr g k cs (fun e => hn (e ▸ hg (e ▸ hk)))).trans (h.block k hk hn)⟩
theorem Arr.setRow {w : World} {g : Nat} {t : TypeId} {xs : List Value} (h : Arr w g t xs) (ys : List Value) : Arr (w.setRow g ys.toArray) g t ys := setRow_heap w g _ _ t _ h
theorem Arr.setRow_other {w : World} {g : Nat} {t : TypeId} {xs : List Value} (h : Arr w g t xs) (g' : Nat) (cs : Array Value) (hg : g ≠ g') : Arr (w.setRow g' cs) g t xs := (Go.setRow_other w g' g cs hg).trans h

end Go.Proofs.Ythlbmjjodjepjaa
