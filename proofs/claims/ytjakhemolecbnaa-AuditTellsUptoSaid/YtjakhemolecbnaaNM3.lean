/-
  The texts Tells0 of this proof in one (what is used of them): what each proves is said at its head. No conditions beyond those that each theorem says.
-/
import Derived.Test.YtjakhemolecbnaaNM2
import Derived.Test.YtjakhemolecbnaaNJ

/-
  Rows of any records that grow; claims of which one byte is turned; what the bound says of rows of records.
-/
section
set_option linter.unusedVariables false
set_option linter.unusedSimpArgs false
namespace Go.Proofs.Ytjakhemolecbnaa
open Go.RowKit

/-- A record of a row that grows: its groups lie elsewhere. -/
structure GV (w : World) (v : Value) (m : Rm) : Prop where
  g : RG w m.A m.groups
  gl : m.groups.length ≤ 6
  off : 0 < m.groups.length → ∀ ad, m.A = some ad → ad.block < w.heap.size ∧ v.ownBlock ≠ some ad.block
theorem GV.upd {F : Nat → Prop} {w w' : World} {v : Value} {m : Rm} (h : GV w v m) (u : Upd F w w') (hF : 0 < m.groups.length → ∀ ad, m.A = some ad → ¬ F ad.block) : GV w' v m :=
  ⟨RC.upd h.g u (fun h0 ad e => hF (by simpa using h0) ad e), h.gl, fun h0 ad e => ⟨Nat.lt_of_lt_of_le (h.off h0 ad e).1 u.size, (h.off h0 ad e).2⟩⟩
theorem GV.below {w w' : World} {v : Value} {m : Rm} (h : GV w v m) (hb : Below w.heap.size w w') : GV w' v m := h.upd (Upd.of_below (F := fun _ => False) hb) (fun _ _ _ => id)
/-- Any records of one's own, in a row that grows. -/
structure RecsV (w : World) (B : Nat) (v : Value) (ms : List Rm) : Prop where
  own : w.ownsRow B 24 4 v ms.length (rmc ms)
  gv : ∀ m ∈ ms, GV w v m
theorem RecsV.nil (w : World) (B : Nat) : RecsV w B (.slice none 0 0) [] := ⟨World.ownsRow_nil _ _ _ _, fun m hm => by cases hm⟩
theorem RecsV.below {w w' : World} {B : Nat} {v : Value} {ms : List Rm} (h : RecsV w B v ms) (hb : Below w.heap.size w w') : RecsV w' B v ms := ⟨own_below h.own hb, fun m hm => (h.gv m hm).below hb⟩
theorem RecsV.push {w W : World} {B k0 : Nat} {v v' : Value} {ms : List Rm} {m : Rm} (h : RecsV w B v ms) (hm : GV w v m) (ho : W.ownsRow B 24 4 v' (ms.length + 1) (rmc ms ++ m.cells)) (hu : Upd (fun k => v.ownBlock = some k) w W) (hat : v'.ownBlock = v.ownBlock ∨ v'.ownBlock = some k0) (hk : w.heap.size ≤ k0) : RecsV W B v' (ms ++ [m]) := by
  constructor
  · rw [rmc_append, List.length_append]
    exact ho
  · intro q hq
    have h9 : GV w v q := by
      rcases List.mem_append.1 hq with h1 | h1
      · exact h.gv q h1
      · rw [List.mem_singleton.1 h1]; exact hm
    have h10 := h9.upd hu (fun h0 ad e => (h9.off h0 ad e).2)
    refine ⟨h10.g, h10.gl, fun h0 ad e => ⟨(h10.off h0 ad e).1, fun h5 => ?_⟩⟩
    rcases hat with h | h
    · exact (h9.off h0 ad e).2 (h.symm.trans h5)
    · rw [h] at h5
      have h6 := Option.some.inj h5
      have h7 := (h9.off h0 ad e).1
      omega
theorem RecsV.at_ {w : World} {B n c : Nat} {A : Option Addr} {ms : List Rm} (h : RecsV w B (.slice A n c) ms) (ht : bulkR ms ≤ 1200000) : RmAtW w A ms :=
  ⟨own_RC h.own, fun m hm => ⟨(h.gv m hm).g, Nat.le_trans (h.gv m hm).gl (by decide)⟩, ht⟩
/-- append(recs, m) -/
theorem append_recV {P' : Program} (hP : P' = Try.prog) {ops : Array Oper} {rest : List Oper} {o : Oper} {a : Act} {Q : Exit → Act → World → Prop} {w : World} (hgd : o.guard = none) (s x : Operand)
    (ho : o.op = .call { callee := .builtin .append, args := #[s, x], argTypes := #[29, 29] })
    (w0 : World) (B : Nat) (v : Value) (ms : List Rm) (m : Rm) (hs : a.eval s = v) (hx : a.eval x = .slice (some ⟨w0.heap.size, 0, none⟩) 1 1) (hw : w = w0.alloc (.cells m.cells.toArray 24))
    (hR : RecsV w0 B v ms) (hm : GV w0 v m) (hB : B ≤ w0.heap.size) (hl : ms.length ≤ 100000000)
    (h : ∀ v' w', RecsV w' B v' (ms ++ [m]) → Upd (fun k => v.ownBlock = some k) w0 w' → wpList P' ops Q rest (a.put o.dst v') w') :
    wpList P' ops Q (o :: rest) a w := by
  subst hw
  subst hP
  have h1 : ∀ u ∈ m.cells, u.oneCell' = true := by
    intro u hu
    simp only [Rm.cells, List.mem_cons, List.not_mem_nil, or_false] at hu
    rcases hu with rfl | rfl | rfl | rfl <;> rfl
  refine append_any hgd s x 29 ho B 24 (.agg recZ) 4 64 Try.underlying29 infoRecA rfl (by omega) (by omega) v ms.length (rmc ms) hs (hR.own.alloc _) _ 1 1 m.cells hx rfl (RC_newL _ m.cells 24) h1 (by omega) (by simp; omega) ?_
  intro v' w' ho' hg' hat'
  have hua : Upd (fun k => v.ownBlock = some k) w0 w' := ((Upd.refl _ w0).alloc _).grown hg' (fun k hk _ => hk)
  exact h v' w' (hR.push hm ho' hua hat' (by simp)) hua

theorem bulk_snoc (ms : List Rm) (m : Rm) : bulkR (ms ++ [m]) = bulkR ms + (m.tx.length + m.body.length) := by simp [bulkR]
theorem bulk_take (L : List Rm) (k : Nat) (h : k < L.length) : bulkR (L.take (k + 1)) = bulkR (L.take k) + (L[k].tx.length + L[k].body.length) := by
  rw [List.take_succ_eq_append_getElem h, bulk_snoc]
theorem bulk_take_le (L : List Rm) (k : Nat) : bulkR (L.take k) ≤ bulkR L := by
  have h : bulkR L = bulkR (L.take k) + bulkR (L.drop k) := by
    unfold bulkR
    rw [← List.sum_append, ← List.map_append, List.take_append_drop]
  omega
/-- A row of four cells that is stored anew. -/
theorem set4 {w : World} {b : Nat} {T : TypeId} {a0 a1 a2 a3 : Value} (h : w.heap[b]? = some (.cells #[a0, a1, a2, a3] T (0, 0))) (y0 y1 y2 y3 : Value) :
    ((((w.setCell ⟨b, 0, none⟩ y0).setCell ⟨b, 1, none⟩ y1).setCell ⟨b, 2, none⟩ y2).setCell ⟨b, 3, none⟩ y3).heap[b]? = some (.cells #[y0, y1, y2, y3] T (0, 0)) ∧ Upd (fun k => k = b) w ((((w.setCell ⟨b, 0, none⟩ y0).setCell ⟨b, 1, none⟩ y1).setCell ⟨b, 2, none⟩ y2).setCell ⟨b, 3, none⟩ y3) := by
  refine ⟨?_, ((((Upd.refl (fun k => k = b) w).setCell (p := ⟨b, 0, none⟩) (fun _ => rfl) _).setCell (p := ⟨b, 1, none⟩) (fun _ => rfl) _).setCell (p := ⟨b, 2, none⟩) (fun _ => rfl) _).setCell (p := ⟨b, 3, none⟩) (fun _ => rfl) _⟩
  rw [setCell_at (setCell_at (setCell_at (setCell_at h _) _) _) _]
  rfl

theorem bv_setU (l : List UInt8) (k : Nat) (y : UInt8) : bv (l.set k y) = (bv l).set k (.int .u8 (un8 y)) := by
  unfold bv
  rw [List.map_set]
  rfl
/-- Bytes of which one may have been turned. -/
theorem RB_turn {w : World} {A : Option Addr} {l : List UInt8} (h : RB w A l) (g i : Nat) (y : UInt8) : ∃ l' : List UInt8, l'.length = l.length ∧ RB (w.setCell ⟨g, i, none⟩ (.int .u8 (un8 y))) A l' := by
  by_cases h0 : 0 < l.length
  · obtain ⟨b, o, rfl, hc⟩ := h.cells.part (by rw [bv_length]; exact h0)
    by_cases hk : b = g ∧ o ≤ i
    · obtain ⟨rfl, ho⟩ := hk
      refine ⟨l.set (i - o) y, by simp, RC.bytes (fun _ => ⟨_, rfl, fun j u hj => ?_⟩)⟩
      rw [bv_setU] at hj
      rw [add_off]
      by_cases hi : i - o = j
      · subst hi
        rw [List.getElem?_set_self'] at hj
        cases hq : (bv l)[i - o]? with
        | none => rw [hq] at hj; cases hj
        | some q =>
          rw [hq] at hj
          cases hj
          have := hc _ _ hq
          rw [show o + (i - o) = i by omega] at this ⊢
          exact World.cell?_setCell_same _ _ _ this
      · rw [List.getElem?_set_ne hi] at hj
        rw [World.cell?_setCell_other _ _ _ _ (by intro e; simp only [Addr.mk.injEq] at e; omega)]
        exact hc _ _ hj
    · refine ⟨l, rfl, RC.bytes (fun _ => ⟨_, rfl, fun j u hj => ?_⟩)⟩
      rw [add_off]
      rw [World.cell?_setCell_other _ _ _ _ (by intro e; simp only [Addr.mk.injEq] at e; omega)]
      exact hc _ _ hj
  · exact ⟨l, rfl, fun h1 => absurd h1 h0⟩
/-- Claims of which one byte has been turned. -/
theorem cls_turn {w : World} {A : Option Addr} {L : List Cl} (h : ClsAt w A L) (g i : Nat) (y : UInt8) (hA : 0 < L.length → ∀ ad, A = some ad → ad.block ≠ g) : ∃ L' : List Cl, L'.length = L.length ∧ ClsAt (w.setCell ⟨g, i, none⟩ (.int .u8 (un8 y))) A L' := by
  have key : ∀ M : List Cl, (∀ x ∈ M, RB w x.A x.l ∧ (x.A = none → x.c = 0) ∧ x.l.length ≤ 17000000) → ∃ M' : List Cl, M'.length = M.length ∧ clc M' = clc M ∧ ∀ x ∈ M', RB (w.setCell ⟨g, i, none⟩ (.int .u8 (un8 y))) x.A x.l ∧ (x.A = none → x.c = 0) ∧ x.l.length ≤ 17000000 := by
    intro M
    induction M with
    | nil => intro _; exact ⟨[], rfl, rfl, fun x hx => by cases hx⟩
    | cons x r ih =>
      intro hM
      obtain ⟨M', h1, h2, h3⟩ := ih (fun q hq => hM q (by simp [hq]))
      obtain ⟨hx1, hx2, hx3⟩ := hM x (by simp)
      obtain ⟨l', hl, hr⟩ := RB_turn hx1 g i y
      refine ⟨⟨x.g, x.A, x.c, l'⟩ :: M', by simp [h1], ?_, fun q hq => ?_⟩
      · have e1 : clc (⟨x.g, x.A, x.c, l'⟩ :: M') = Cl.cells ⟨x.g, x.A, x.c, l'⟩ ++ clc M' := by simp [clc]
        have e2 : clc (x :: r) = x.cells ++ clc r := by simp [clc]
        rw [e1, e2, h2]
        congr 1
        unfold Cl.cells
        dsimp only
        rw [hl]
      · rcases List.mem_cons.1 hq with rfl | hq
        · exact ⟨hr, hx2, by dsimp only; rw [hl]; exact hx3⟩
        · exact h3 q hq
  obtain ⟨L', h1, h2, h3⟩ := key L h.b
  refine ⟨L', h1, ?_, h3⟩
  rw [h2]
  exact RC.upd h.r ((Upd.refl (fun k => k = g) w).setCell (p := ⟨g, i, none⟩) (fun _ => rfl) _) (fun h0 ad e => hA (by rw [clc_length] at h0; omega) ad e)

theorem tame_small (k a b : Int) : (tameS k a b).groups.length ≤ 3 ∧ (tameS k a b).tx.length ≤ 1 ∧ (tameS k a b).body = [] := by
  unfold tameS grpT
  dsimp only
  refine ⟨?_, ?_, rfl⟩
  · split
    · decide
    · split <;> decide
  · split
    · decide
    · split <;> decide
theorem own_off {w : World} {B : Nat} {v : Value} {x : Cl} (ho : OwnB w B x) (hbt : BtG w B v x) : ∀ k, (Value.slice x.A x.l.length x.c).ownBlock = some k → ¬ v.ownBlock = some k := by
  intro k hk hv
  have h4 := ho.ge
  obtain ⟨ad, e, hbk⟩ : ∃ ad, x.A = some ad ∧ ad.block = k := by
    cases hA : x.A with
    | none => rw [hA] at hk; cases hk
    | some ad =>
      rw [hA] at hk
      exact ⟨ad, rfl, by simpa [Value.ownBlock] using hk⟩
  exact (hbt.off (by omega) ad e).2.2 (by rw [hbk]; exact hv)
/-- Which world there is, by what is done. -/
def wTl5 (wa wb wc wd we : World) (l : Array Bool) : World := if l.getD 13 false = true then we else if l.getD 12 false = true then wd else if l.getD 10 false = true then wc else if l.getD 5 false = true then wb else wa
theorem wTl5_at {P : World → Prop} {wa wb wc wd we W : World} {l : Array Bool} (h12 : l.getD 12 false = false) (h13 : l.getD 13 false = false) (ha : P wa) (hb : P wb) (hc : P wc) (h : W = wTl5 wa wb wc wd we l) : P W := by
  rw [h]
  unfold wTl5
  rw [h13, h12]
  simp only [Bool.false_eq_true, if_false]
  split
  · exact hc
  · split
    · exact hb
    · exact ha
theorem getD_setT5 (l : Array Bool) {i j : Nat} (h : i ≠ j) : (l.setIfInBounds j true).getD i false = l.getD i false := by
  rw [Array.getD_eq_getD_getElem?, Array.getD_eq_getD_getElem?, Array.getElem?_setIfInBounds, if_neg (fun e => h e.symm)]
structure TTl5 (wa wb wc wd we : World) (l : Array Bool) (W : World) : Prop where
  eq : W = wTl5 wa wb wc wd we l
theorem TTl5.set {wa wb wc wd we : World} {l : Array Bool} {W : World} (h : TTl5 wa wb wc wd we l W) (j : Nat) (hj : j ≠ 5 ∧ j ≠ 10 ∧ j ≠ 12 ∧ j ≠ 13 := by decide) : TTl5 wa wb wc wd we (l.setIfInBounds j true) W := by
  constructor
  rw [h.eq]
  unfold wTl5
  rw [getD_setT5 l (Ne.symm hj.1), getD_setT5 l (Ne.symm hj.2.1), getD_setT5 l (Ne.symm hj.2.2.1), getD_setT5 l (Ne.symm hj.2.2.2)]
end Go.Proofs.Ytjakhemolecbnaa
end
