/-
  The texts VerP of this proof in one (what is used of them): what each proves is said at its head. No conditions beyond those that each theorem says.
-/
import Derived.Test.YtjakhemolecbnaaNF2

/-
  What Verify finds, plain: the faults, and the least of them.
-/
section
set_option linter.unusedVariables false
set_option linter.unusedSimpArgs false
namespace Go.Proofs.Ytjakhemolecbnaa
open Go.RowKit

abbrev Ft := Int × Int × Int
def ofPp (k : Int) (s : List UInt8) (r : Rp) : Bool := decide (r.kind = k ∧ r.tx = s)
def strPp (s : List UInt8) (zs : List Int) (r : Rp) : Bool := decide (r.kind = 3 ∧ r.tx = s ∧ r.groups ≠ zs)
def tstP (cs : List Cp) (n : Int) (P : Rp → Bool) (j : Nat) : Bool := match cs[j]? with | some c => decide ((j : Int) ≠ n) && c.whole && c.recs.any P | none => false
def othersP (cs : List Cp) (n : Int) (P : Rp → Bool) : Bool := (List.range cs.length).any (tstP cs n P)
def twiceP (l : List Rp) (m : Rp) : Bool := decide (m.kind = 3) && (l.any (ofPp 3 m.tx) || l.any (ofPp 4 m.tx)) || decide (m.kind = 4) && l.any (ofPp 3 m.tx)
def bothP (cs : List Cp) (i : Int) (m : Rp) : Bool := decide (m.kind = 3) && othersP cs i (ofPp 4 m.tx) || decide (m.kind = 4) && othersP cs i (ofPp 3 m.tx)
def bareP (l : List Rp) (m : Rp) : Bool := decide (m.kind = 3) && !l.any (ofPp 2 m.tx)
def strangeP (cs : List Cp) (i : Int) (gr : Int) (m : Rp) : Bool := decide (m.kind = 3) && (!decide (gr ∈ m.groups) || othersP cs i (strPp m.tx m.groups))
def brkP (cs : List Cp) (i : Nat) (c : Cp) (at' : Nat) (m : Rp) (k : Nat) : Bool := match k with
  | 0 => twiceP (c.recs.take at') m
  | 1 => bothP cs i m
  | 2 => bareP (c.recs.take at') m
  | _ => strangeP cs i c.group m
def one (c : Bool) (f : Ft) : List Ft := if c = true then [f] else []
def pfxF (cs : List Cp) (c : Cp) (i j : Nat) : List Ft := match cs[j]? with
  | some d => one (d.whole && (decide (d.group = c.group) && !decide (d.M.take (min d.M.length c.M.length) = c.M.take (min d.M.length c.M.length)))) (3, (i : Int), (unlikeS d.M c.M : Int))
  | none => []
def recF (cs : List Cp) (c : Cp) (i at' : Nat) : List Ft := match c.recs[at']? with
  | some m => (List.range 4).flatMap fun k => one (brkP cs i c at' m k) (4 + (k : Int), (i : Int), (at' : Int))
  | none => []
def clF (cs : List Cp) (i : Nat) : List Ft := match cs[i]? with
  | some c => if c.lt = false then [(1, (i : Int), c.en)] else if c.whole = false then [(2, (i : Int), c.en)] else (List.range i).flatMap (pfxF cs c i) ++ (List.range c.recs.length).flatMap (recF cs c i)
  | none => []
def faults (cs : List Cp) : List Ft := (List.range cs.length).flatMap (clF cs)
def verP (cs : List Cp) : Ft := (faults cs).foldl bestOf (0, 0, 0)

theorem fold_one (b : Ft) (c : Bool) (f : Ft) : (one c f).foldl bestOf b = if c = true then bestOf b f else b := by
  unfold one
  split <;> rfl
theorem fold_flat {α : Type} (F : α → List Ft) : ∀ (l : List α) (b : Ft), (l.flatMap F).foldl bestOf b = l.foldl (fun b x => (F x).foldl bestOf b) b
  | [], b => rfl
  | x :: l, b => by rw [List.flatMap_cons, List.foldl_append, List.foldl_cons, fold_flat F l]
theorem foldl_ext {α : Type} (f g : Ft → α → Ft) : ∀ (l : List α) (b : Ft), (∀ b x, x ∈ l → f b x = g b x) → l.foldl f b = l.foldl g b
  | [], _, _ => rfl
  | x :: l, b, h => by rw [List.foldl_cons, List.foldl_cons, h b x (by simp), foldl_ext f g l _ (fun b y hy => h b y (by simp [hy]))]

theorem any_of (k : Int) (s : List UInt8) (l : List Rm) : l.any (ofP k s) = (l.map Rm.p).any (ofPp k s) := by rw [List.any_map]; rfl
theorem tst_p (cs : List Cm) (n : Int) (P : Rp → Bool) (j : Nat) : tst cs n (fun m => P m.p) j = tstP (cs.map Cm.p) n P j := by
  unfold tst tstP
  rw [List.getElem?_map]
  cases cs[j]? with
  | none => rfl
  | some c =>
    show (_ && c.whole && c.recs.any _) = (_ && c.whole && (c.recs.map Rm.p).any P)
    rw [List.any_map]
    rfl
theorem others_p (cs : List Cm) (n : Int) (P : Rp → Bool) : othersS cs n (fun m => P m.p) = othersP (cs.map Cm.p) n P := by
  unfold othersS othersP
  rw [List.length_map]
  congr 1
  funext j
  exact tst_p cs n P j
theorem brk_p (cs : List Cm) (i : Nat) (c : Cm) (at' : Nat) (m : Rm) (k : Nat) : brk cs i c at' m k = brkP (cs.map Cm.p) i c.p at' m.p k := by
  have ht : (c.recs.take at').map Rm.p = (c.p.recs).take at' := List.map_take
  match k with
  | 0 =>
    show twiceS _ _ = twiceP _ _
    unfold twiceS twiceP
    rw [any_of, any_of, ht]
    rfl
  | 1 =>
    show bothS _ _ _ = bothP _ _ _
    unfold bothS bothP
    rw [show othersS cs i (ofP 4 m.tx) = _ from others_p cs i (ofPp 4 m.tx), show othersS cs i (ofP 3 m.tx) = _ from others_p cs i (ofPp 3 m.tx)]
    rfl
  | 2 =>
    show bareS _ _ = bareP _ _
    unfold bareS bareP
    rw [any_of, ht]
    rfl
  | k + 3 =>
    show strangeS _ _ _ _ = strangeP _ _ _ _
    unfold strangeS strangeP
    rw [show othersS cs i (strP m.tx m.groups) = _ from others_p cs i (strPp m.tx m.groups)]
    rfl
theorem pfx_p (cs : List Cm) (c : Cm) (i : Nat) (b : Ft) (j : Nat) : pfx cs c i b j = (pfxF (cs.map Cm.p) c.p i j).foldl bestOf b := by
  unfold pfx pfxF
  rw [List.getElem?_map]
  cases cs[j]? with
  | none => rfl
  | some d =>
    show _ = (one _ _).foldl bestOf b
    rw [fold_one]
    show (if d.whole = true ∧ d.group = c.group ∧ ¬ _ then _ else _) = if (d.whole && (decide (d.group = c.group) && !decide (d.M.take (min d.M.length c.M.length) = c.M.take (min d.M.length c.M.length)))) = true then _ else _
    simp only [Bool.and_eq_true, decide_eq_true_eq, Bool.not_eq_true', decide_eq_false_iff_not]
    rfl
theorem rec_p (cs : List Cm) (i : Nat) (c : Cm) (b : Ft) (at' : Nat) : recB cs i c b at' = (recF (cs.map Cm.p) c.p i at').foldl bestOf b := by
  unfold recB recF
  have e : c.p.recs[at']? = (c.recs[at']?).map Rm.p := List.getElem?_map
  rw [e]
  cases c.recs[at']? with
  | none => rfl
  | some m =>
    show _ = ((List.range 4).flatMap _).foldl bestOf b
    rw [fold_flat]
    refine foldl_ext _ _ _ _ (fun b k _ => ?_)
    rw [fold_one, ← brk_p]
    rfl
theorem cl_p (cs : List Cm) (b : Ft) (i : Nat) : clB cs b i = (clF (cs.map Cm.p) i).foldl bestOf b := by
  unfold clB clF
  rw [List.getElem?_map]
  cases cs[i]? with
  | none => rfl
  | some c =>
    show (if c.lt = false then _ else _) = (if c.lt = false then _ else _ : List Ft).foldl bestOf b
    by_cases h1 : c.lt = false
    · rw [if_pos h1, if_pos h1]; rfl
    · rw [if_neg h1, if_neg h1]
      show (if c.whole = false then _ else _) = (if c.whole = false then _ else _ : List Ft).foldl bestOf b
      by_cases h2 : c.whole = false
      · rw [if_pos h2, if_pos h2]; rfl
      · rw [if_neg h2, if_neg h2, List.foldl_append, fold_flat, fold_flat]
        have hl : c.p.recs.length = c.recs.length := List.length_map ..
        have e1 : prefixesB cs c i b = (List.range i).foldl (fun b x => (pfxF (cs.map Cm.p) c.p i x).foldl bestOf b) b := foldl_ext _ _ _ _ (fun b j _ => pfx_p cs c i b j)
        rw [e1]
        show _ = (List.range c.p.recs.length).foldl _ _
        rw [hl]
        exact foldl_ext _ _ _ _ (fun b j _ => rec_p cs i c b j)
theorem ver_p (cs : List Cm) : verS cs = verP (cs.map Cm.p) := by
  unfold verS verP faults
  rw [fold_flat, List.length_map]
  exact foldl_ext _ _ _ _ (fun b j _ => cl_p cs b j)

/-- Verify, plain. -/
theorem verify_p (A : Option Addr) (n c : Nat) (L : List Cl) (w : World) (hl : L.length = n) (hn : n ≤ 1000) (hr : ClsAt w A L) :
    Calls Try.prog 10 #[.slice A n c] w fun e w' => e = .returned (.tuple #[.agg #[.int .i64 (verP (L.map Cl.p)).1, .int .i64 (verP (L.map Cl.p)).2.1, .int .i64 (verP (L.map Cl.p)).2.2], .bool ((verP (L.map Cl.p)).1 == 0)]) ∧ Below w.heap.size w w' := by
  refine (verify_any A n c L w hl hn hr).mono ?_
  rintro e w' ⟨cs, hcs, rfl, hb⟩
  rw [ver_p, hcs]
  exact ⟨rfl, hb⟩

theorem best_mem (b f : Ft) : bestOf b f = b ∨ bestOf b f = f := by
  unfold bestOf
  split
  · exact .inr rfl
  · exact .inl rfl
theorem fold_mem : ∀ (l : List Ft) (b : Ft), l.foldl bestOf b = b ∨ l.foldl bestOf b ∈ l
  | [], b => .inl rfl
  | f :: l, b => by
    rw [List.foldl_cons]
    rcases fold_mem l (bestOf b f) with h | h
    · rw [h]
      rcases best_mem b f with h2 | h2
      · rw [h2]; exact .inl rfl
      · rw [h2]; exact .inr (by simp)
    · exact .inr (by simp [h])
theorem fold_some : ∀ (l : List Ft), l ≠ [] → l.foldl bestOf (0, 0, 0) ∈ l
  | [], h => absurd rfl h
  | f :: l, _ => by
    rw [List.foldl_cons, show bestOf (0, 0, 0) f = f from if_pos (.inl rfl)]
    rcases fold_mem l f with h | h
    · rw [h]; simp
    · simp [h]
theorem faults_pos (cs : List Cp) : ∀ f ∈ faults cs, 1 ≤ f.1 ∧ f.1 ≤ 7 := by
  intro f hf
  unfold faults at hf
  obtain ⟨i, _, hf⟩ := List.mem_flatMap.1 hf
  unfold clF at hf
  split at hf
  · rename_i c _
    split at hf
    · rw [List.mem_singleton.1 hf]; exact ⟨by simp, by simp⟩
    · split at hf
      · rw [List.mem_singleton.1 hf]; exact ⟨by simp, by simp⟩
      · rcases List.mem_append.1 hf with hf | hf
        · obtain ⟨j, _, hf⟩ := List.mem_flatMap.1 hf
          unfold pfxF at hf
          split at hf
          · unfold one at hf
            split at hf
            · rw [List.mem_singleton.1 hf]; exact ⟨by simp, by simp⟩
            · cases hf
          · cases hf
        · obtain ⟨j, _, hf⟩ := List.mem_flatMap.1 hf
          unfold recF at hf
          split at hf
          · obtain ⟨k, hk, hf⟩ := List.mem_flatMap.1 hf
            unfold one at hf
            split at hf
            · rw [List.mem_singleton.1 hf]
              have := List.mem_range.1 hk
              show 1 ≤ 4 + (k : Int) ∧ 4 + (k : Int) ≤ 7
              omega
            · cases hf
          · cases hf
  · cases hf
end Go.Proofs.Ytjakhemolecbnaa
end
