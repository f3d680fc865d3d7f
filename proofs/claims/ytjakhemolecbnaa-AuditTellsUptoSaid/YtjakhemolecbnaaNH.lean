/-
  The texts Grow20, OutlineD of this proof in one (what is used of them): what each proves is said at its head. No conditions beyond those that each theorem says.
-/
import Derived.Test.YtjakhemolecbnaaNG5
import Derived.Test.YtjakhemolecbnaaNG
import Derived.Test.YtjakhemolecbnaaNG2
import Derived.Test.YtjakhemolecbnaaNG3
import Derived.Test.YtjakhemolecbnaaND2
import Derived.Test.YtjakhemolecbnaaNA2

/-
  Rows of records and of claims that grow.
-/
section
set_option linter.unusedVariables false
set_option linter.unusedSimpArgs false
namespace Go.Proofs.Ytjakhemolecbnaa
open Go.RowKit

theorem RI.rg {w : World} {A : Option Addr} {zs : List Int} (h : RI w A zs) : RG w A zs := by
  intro h0
  rw [List.length_map] at h0
  obtain ⟨ad, e, hh⟩ := h h0
  refine ⟨ad, e, fun j u hj => ?_⟩
  rw [List.getElem?_map] at hj
  obtain ⟨z, hz, rfl⟩ := Option.map_eq_some_iff.1 hj
  obtain ⟨hj', rfl⟩ := List.getElem?_eq_some_iff.1 hz
  exact (hh j hj').1

/-- Records of one's own, in a row that grows. -/
structure RecsG (w : World) (B : Nat) (v : Value) (ms : List Rm) : Prop where
  own : w.ownsRow B 24 4 v ms.length (rmc ms)
  gi : ∀ m ∈ ms, GI w B v m
theorem RecsG.nil (w : World) (B : Nat) : RecsG w B (.slice none 0 0) [] := ⟨World.ownsRow_nil _ _ _ _, fun m hm => by cases hm⟩
theorem RecsG.below {w w' : World} {B : Nat} {v : Value} {ms : List Rm} (h : RecsG w B v ms) (hb : Below w.heap.size w w') : RecsG w' B v ms := ⟨own_below h.own hb, fun m hm => (h.gi m hm).below hb⟩
theorem RecsG.push {w W : World} {B k0 : Nat} {v v' : Value} {ms : List Rm} {m : Rm} (h : RecsG w B v ms) (hm : GI w B v m) (ho : W.ownsRow B 24 4 v' (ms.length + 1) (rmc ms ++ m.cells)) (hu : Upd (fun k => v.ownBlock = some k) w W) (hat : v'.ownBlock = v.ownBlock ∨ v'.ownBlock = some k0) (hk : w.heap.size ≤ k0) : RecsG W B v' (ms ++ [m]) := by
  constructor
  · rw [rmc_append, List.length_append]
    exact ho
  · intro q hq
    have h9 : GI w B v q := by
      rcases List.mem_append.1 hq with h1 | h1
      · exact h.gi q h1
      · rw [List.mem_singleton.1 h1]; exact hm
    have h10 := h9.upd hu (fun h0 ad e => (h9.2.2 h0 ad e).2.2)
    refine ⟨h10.1, h10.2.1, fun h0 ad e => ⟨(h10.2.2 h0 ad e).1, (h10.2.2 h0 ad e).2.1, fun h5 => ?_⟩⟩
    rcases hat with h | h
    · exact (h9.2.2 h0 ad e).2.2 (h.symm.trans h5)
    · rw [h] at h5
      have h6 := Option.some.inj h5
      have h7 := (h9.2.2 h0 ad e).2.1
      omega
theorem RecsG.at_ {w : World} {B n c : Nat} {A : Option Addr} {ms : List Rm} (h : RecsG w B (.slice A n c) ms) (ho : ∀ m ∈ ms, rOK m.p) : RmAt w A ms :=
  ⟨own_RC h.own, fun m hm => ⟨(h.gi m hm).1, (ho m hm).tx, Nat.le_trans (ho m hm).gl (by decide), (ho m hm).bd⟩⟩
theorem RmAt.take {w : World} {A : Option Addr} {ms : List Rm} (h : RmAt w A ms) (i : Nat) : RmAt w A (ms.take i) := by
  refine ⟨?_, fun m hm => h.g m (List.mem_of_mem_take hm)⟩
  by_cases hi : i ≤ ms.length
  · rw [← rmc_take ms i hi]
    exact RC_take h.r _
  · rw [List.take_of_length_le (by omega)]
    exact h.r

/-- append(recs, m) -/
theorem append_rec {P' : Program} (hP : P' = Try.prog) {ops : Array Oper} {rest : List Oper} {o : Oper} {a : Act} {Q : Exit → Act → World → Prop} {w : World} (hgd : o.guard = none) (s x : Operand)
    (ho : o.op = .call { callee := .builtin .append, args := #[s, x], argTypes := #[29, 29] })
    (w0 : World) (B : Nat) (v : Value) (ms : List Rm) (m : Rm) (hs : a.eval s = v) (hx : a.eval x = .slice (some ⟨w0.heap.size, 0, none⟩) 1 1) (hw : w = w0.alloc (.cells m.cells.toArray 24))
    (hR : RecsG w0 B v ms) (hm : GI w0 B v m) (hB : B ≤ w0.heap.size) (hl : ms.length ≤ 100000000)
    (h : ∀ v' w', RecsG w' B v' (ms ++ [m]) → Upd (fun k => v.ownBlock = some k) w0 w' → wpList P' ops Q rest (a.put o.dst v') w') :
    wpList P' ops Q (o :: rest) a w := by
  subst hw
  subst hP
  have h1 : ∀ u ∈ m.cells, u.oneCell' = true := by
    intro u hu
    simp only [Rm.cells, List.mem_cons, List.not_mem_nil, or_false] at hu
    rcases hu with rfl | rfl | rfl | rfl <;> rfl
  refine append_any hgd s x 29 ho B 24 (.agg recZ) 4 64 Try.underlying29 infoRecA rfl (by omega) (by omega) v ms.length (rmc ms) hs (hR.own.alloc _) _ 1 1 m.cells hx rfl (RC_newL _ m.cells 24) h1 (by omega) (by simp; omega) ?_
  intro v' w' ho' hg' hat'
  have hua : Upd (fun k => v.ownBlock = some k) w0 w' := ((Upd.refl _ w0).alloc _).grown hg' (fun k hk _ => hk)
  exact h v' w' (hR.push hm ho' hua hat' (by simp)) hua

/-- A claim that lies in memory, apart from a row of claims. -/
structure BtG (w : World) (B : Nat) (v : Value) (x : Cl) : Prop where
  rc : RC w x.A (bv x.l)
  nil : x.A = none → x.c = 0
  le : x.l.length ≤ 17000000
  off : 0 < x.l.length → ∀ ad, x.A = some ad → B ≤ ad.block ∧ ad.block < w.heap.size ∧ v.ownBlock ≠ some ad.block
theorem BtG.upd {F : Nat → Prop} {w w' : World} {B : Nat} {v : Value} {x : Cl} (h : BtG w B v x) (u : Upd F w w') (hF : 0 < x.l.length → ∀ ad, x.A = some ad → ¬ F ad.block) : BtG w' B v x :=
  ⟨RC.upd h.rc u (fun h0 ad e => hF (by simpa [bv] using h0) ad e), h.nil, h.le, fun h0 ad e => ⟨(h.off h0 ad e).1, Nat.lt_of_lt_of_le (h.off h0 ad e).2.1 u.size, (h.off h0 ad e).2.2⟩⟩
theorem BtG.below {w w' : World} {B : Nat} {v : Value} {x : Cl} (h : BtG w B v x) (hb : Below w.heap.size w w') : BtG w' B v x := h.upd (Upd.of_below (F := fun _ => False) hb) (fun _ _ _ => id)
theorem BtG.rb {w : World} {B : Nat} {v : Value} {x : Cl} (h : BtG w B v x) : RB w x.A x.l ∧ (x.A = none → x.c = 0) ∧ x.l.length ≤ 17000000 := ⟨h.rc.bytes, h.nil, h.le⟩
/-- Claims of one's own, in a row that grows. -/
structure ClsG (w : World) (B : Nat) (v : Value) (L : List Cl) : Prop where
  own : w.ownsRow B 27 2 v L.length (clc L)
  b : ∀ x ∈ L, BtG w B v x
theorem ClsG.nil (w : World) (B : Nat) : ClsG w B (.slice none 0 0) [] := ⟨World.ownsRow_nil _ _ _ _, fun m hm => by cases hm⟩
theorem ClsG.below {w w' : World} {B : Nat} {v : Value} {L : List Cl} (h : ClsG w B v L) (hb : Below w.heap.size w w') : ClsG w' B v L := ⟨own_below h.own hb, fun m hm => (h.b m hm).below hb⟩
theorem ClsG.at_ {w : World} {B n c : Nat} {A : Option Addr} {L : List Cl} (h : ClsG w B (.slice A n c) L) : ClsAt w A L := ⟨own_RC h.own, fun x hx => (h.b x hx).rb⟩
theorem ClsG.push {w W : World} {B k0 : Nat} {v v' : Value} {L : List Cl} {x : Cl} (h : ClsG w B v L) (hm : BtG w B v x) (ho : W.ownsRow B 27 2 v' (L.length + 1) (clc L ++ x.cells)) (hu : Upd (fun k => v.ownBlock = some k) w W) (hat : v'.ownBlock = v.ownBlock ∨ v'.ownBlock = some k0) (hk : w.heap.size ≤ k0) : ClsG W B v' (L ++ [x]) := by
  constructor
  · rw [clc_append, List.length_append, show clc [x] = x.cells by simp [clc]]
    exact ho
  · intro q hq
    have h9 : BtG w B v q := by
      rcases List.mem_append.1 hq with h1 | h1
      · exact h.b q h1
      · rw [List.mem_singleton.1 h1]; exact hm
    have h10 := h9.upd hu (fun h0 ad e => (h9.off h0 ad e).2.2)
    refine ⟨h10.rc, h10.nil, h10.le, fun h0 ad e => ⟨(h10.off h0 ad e).1, (h10.off h0 ad e).2.1, fun h5 => ?_⟩⟩
    rcases hat with h | h
    · exact (h9.off h0 ad e).2.2 (h.symm.trans h5)
    · rw [h] at h5
      have h6 := Option.some.inj h5
      have h7 := (h9.off h0 ad e).2.1
      omega
theorem infoCla : (Try.prog.info? 27).map (fun i => (i.zero, i.size, i.bytes)) = some (some (.agg #[.int .i64 0, .slice none 0 0]), 2, 32) := by kernel_rfl
/-- append(claims, x) -/
theorem append_cl {P' : Program} (hP : P' = Try.prog) {ops : Array Oper} {rest : List Oper} {o : Oper} {a : Act} {Q : Exit → Act → World → Prop} {w : World} (hgd : o.guard = none) (s x : Operand)
    (ho : o.op = .call { callee := .builtin .append, args := #[s, x], argTypes := #[30, 30] })
    (w0 : World) (B : Nat) (v : Value) (L : List Cl) (y : Cl) (hs : a.eval s = v) (hx : a.eval x = .slice (some ⟨w0.heap.size, 0, none⟩) 1 1) (hw : w = w0.alloc (.cells y.cells.toArray 27))
    (hR : ClsG w0 B v L) (hm : BtG w0 B v y) (hB : B ≤ w0.heap.size) (hl : L.length ≤ 100000000)
    (h : ∀ v' w', ClsG w' B v' (L ++ [y]) → Upd (fun k => v.ownBlock = some k) w0 w' → wpList P' ops Q rest (a.put o.dst v') w') :
    wpList P' ops Q (o :: rest) a w := by
  subst hw
  subst hP
  have h1 : ∀ u ∈ y.cells, u.oneCell' = true := by
    intro u hu
    simp only [Cl.cells, List.mem_cons, List.not_mem_nil, or_false] at hu
    rcases hu with rfl | rfl <;> rfl
  refine append_any hgd s x 30 ho B 27 (.agg #[.int .i64 0, .slice none 0 0]) 2 32 Try.underlying30 infoCla rfl (by omega) (by omega) v L.length (clc L) hs (hR.own.alloc _) _ 1 1 y.cells hx rfl (RC_newL _ y.cells 27) h1 (by omega) (by simp; omega) ?_
  intro v' w' ho' hg' hat'
  have hua : Upd (fun k => v.ownBlock = some k) w0 w' := ((Upd.refl _ w0).alloc _).grown hg' (fun k hk _ => hk)
  exact h v' w' (hR.push hm ho' hua hat' (by simp)) hua
end Go.Proofs.Ytjakhemolecbnaa
end

/-
  A region that draws its order, proved by an outline that also tells which operations are done.
-/
section
set_option linter.unusedVariables false
set_option linter.unusedSimpArgs false
namespace Go.Proofs.Ytjakhemolecbnaa
open Go.RowKit

variable {P : Program} {ops : Array Oper} {Q : Exit → Act → World → Prop}

def OpOkD (P : Program) (ops : Array Oper) (Q : Exit → Act → World → Prop) (a : Act) (I : Array Bool → World → Prop) (φ : Nat → Value → World → Prop) (i : Nat) (o : Oper) : Prop :=
  ∀ (l : Array Bool) (a' : Act) (w' : World) (K : Act → World → Prop), I l w' → (∀ j k, edgeB ops j k = true → l.getD k false = false → l.getD j false = false) → l.size = ops.size → l.getD i false = false → (∀ k, edgeB ops i k = true → l.getD k false = true) →
    (∀ j t, depB ops i j t = true → φ j (a'.tmps.getD t undef) w') →
    (∀ t, quietB ops i t = true → a'.tmps.getD t undef = a.tmps.getD t undef) →
    (∀ v w'', I (l.setIfInBounds i true) w'' → (∀ j u, l.getD j false = true → φ j u w' → φ j u w'') → φ i v w'' → K (a'.put o.dst v) w'') →
    if Region.wanted o (yielded ops a'.tmps) = true then o.wp P a' w' K Q else K (a'.put o.dst undef) w'

theorem outline_walkD {a : Act} {I : Array Bool → World → Prop} {φ : Nat → Value → World → Prop} (hap : apartB ops a.tmps.size = true)
    (ok : ∀ i o, ops[i]? = some o → OpOkD P ops Q a I φ i o)
    (fin : ∀ listed a' w', Mid ops a I φ listed a' w' → (∀ i, i < ops.size → listed.getD i false = true) → Q .normal a' w')
    (acyc : ∀ listed : Array Bool, listed.size = ops.size → Region.ready .any ops listed = [] → ∀ i, i < ops.size → listed.getD i false = true) :
    ∀ fuel listed a' w', Mid ops a I φ listed a' w' → (fuel + (listed.toList.filter id).length = ops.size) → wpAny P .any ops Q fuel listed a' w' := by
  intro fuel
  induction fuel with
  | zero =>
    intro listed a' w' h hf
    have hall : ∀ i, i < ops.size → listed.getD i false = true := by
      intro i hi
      have h1 : (listed.toList.filter id).length = listed.toList.length := by
        have := h.len
        have h3 : listed.toList.length = listed.size := Array.length_toList
        omega
      have h2 := List.length_filter_eq_length_iff.1 h1
      have hil : i < listed.size := by rw [h.len]; exact hi
      have := h2 listed[i] (by simp)
      simpa [Array.getD_eq_getD_getElem?, hil] using this
    refine ⟨?_, fin listed a' w' h hall⟩
    unfold Region.ready
    rw [List.filter_eq_nil_iff]
    intro i hi
    have h1 := hall i (List.mem_range.1 hi)
    have h2 : listed.getD i true = true := by
      have hil : i < listed.size := by rw [h.len]; exact List.mem_range.1 hi
      simpa [Array.getD_eq_getD_getElem?, hil] using h1
    simp [h2]
  | succ fuel ih =>
    intro listed a' w' h hf
    refine ⟨fun hr => fin listed a' w' h (acyc listed h.len hr), ?_⟩
    intro i hi
    unfold Region.ready at hi
    obtain ⟨hi1, hi2⟩ := List.mem_filter.1 hi
    have hi1 := List.mem_range.1 hi1
    have ho : ops[i]? = some ops[i] := Array.getElem?_eq_getElem hi1
    simp only [ho, Option.map_some, Option.getD_some, Bool.and_eq_true, Bool.not_eq_true'] at hi2
    obtain ⟨hn, hb⟩ := hi2
    have hil : i < listed.size := by rw [h.len]; exact hi1
    have hnf : listed.getD i false = false := by
      simpa [Array.getD_eq_getD_getElem?, hil] using hn
    have hb' : ∀ e ∈ ops[i].after.toList, Region.binds .any e = true → listed.getD e.on false = true := by
      intro e he hbe
      have h1 := Array.all_eq_true_iff_forall_mem.1 hb e (by simpa using he)
      simpa [hbe] using h1
    refine wpOp_step ho (fun K' hK => ?_)
    have hcl : ∀ j k, edgeB ops j k = true → listed.getD k false = false → listed.getD j false = false := by
      intro j k hjk hk
      unfold edgeB at hjk
      cases hoj : ops[j]? with
      | none => rw [hoj] at hjk; cases hjk
      | some oj =>
        rw [hoj] at hjk
        obtain ⟨e, he, h2⟩ := Array.any_eq_true'.1 hjk
        simp only [Bool.and_eq_true, beq_iff_eq] at h2
        cases hx : listed.getD j false with
        | false => rfl
        | true =>
          have h3 := h.closed j oj hoj hx e (by simpa using he) h2.1
          rw [h2.2, hk] at h3
          cases h3
    refine ok i ops[i] ho listed a' w' K' h.inv hcl h.len hnf ?_ ?_ ?_ ?_
    · intro k hk
      unfold edgeB at hk
      rw [ho] at hk
      obtain ⟨e, he, h2⟩ := Array.any_eq_true'.1 hk
      simp only [Bool.and_eq_true, beq_iff_eq] at h2
      have h3 := hb' e (by simpa using he) h2.1
      rwa [h2.2] at h3
    · intro j t hdep
      unfold depB at hdep
      rw [ho] at hdep
      cases hoj : ops[j]? with
      | none => rw [hoj] at hdep; cases hdep
      | some oj =>
        rw [hoj] at hdep
        simp only [Bool.and_eq_true, beq_iff_eq] at hdep
        obtain ⟨e, he, h2⟩ := Array.any_eq_true'.1 hdep.2
        simp only [Bool.and_eq_true, beq_iff_eq] at h2
        have h3 := hb' e (by simpa using he) h2.1
        rw [h2.2] at h3
        exact h.has j oj t hoj h3 hdep.1
    · intro t ht
      refine h.old t ?_
      intro j oj hj hl hd
      have hj1 : j < ops.size := (Array.getElem?_eq_some_iff.1 hj).1
      have h1 := List.all_eq_true.1 ht j (List.mem_range.2 hj1)
      simp only [hj, hd] at h1
      simp only [bne_self_eq_false, Bool.false_or, Bool.or_eq_true, beq_iff_eq] at h1
      rcases h1 with h1 | h1
      · subst h1
        rw [hnf] at hl
        cases hl
      · obtain ⟨e, he, h2⟩ := Array.any_eq_true'.1 h1
        simp only [Bool.and_eq_true, beq_iff_eq] at h2
        have h3 := h.closed j oj hj hl e (by simpa using he) h2.1
        rw [h2.2, hnf] at h3
        cases h3
    · intro v w'' hI hφ hv
      refine hK _ _ (ih _ _ _ (h.stepM hap ho hn hb' hI hφ hv) ?_)
      have hset : ((listed.setIfInBounds i true).toList.filter id).length = (listed.toList.filter id).length + 1 := by
        have hg : listed.toList[i]'(by simpa using hil) = false := by
          simpa [Array.getD_eq_getD_getElem?, hil] using hnf
        rw [Array.toList_setIfInBounds]
        have key : ∀ (l : List Bool) (i : Nat) (h : i < l.length), l[i] = false → ((l.set i true).filter id).length = (l.filter id).length + 1 := by
          intro l
          induction l with
          | nil => intro i h; simp at h
          | cons x l ihl =>
            intro i h hx
            cases i with
            | zero => simp only [List.getElem_cons_zero] at hx; subst hx; simp
            | succ i =>
              simp only [List.getElem_cons_succ] at hx
              have := ihl i (by simpa using h) hx
              cases x <;> simp [this]
        exact key _ _ _ hg
      omega

theorem region_outlineD {id : Nat} {a : Act} {w : World} (I : Array Bool → World → Prop) (φ : Nat → Value → World → Prop) (hm : P.follows .mixedOrders = true)
    (hap : apartB ops a.tmps.size = true) (hback : backB ops = true) (hI : I (Array.replicate ops.size false) w.drew)
    (ok : ∀ i o, ops[i]? = some o → OpOkD P ops Q a I φ i o)
    (fin : ∀ (l : Array Bool) (v : Nat → Value) (w' : World), l.size = ops.size → (∀ i, i < ops.size → l.getD i false = true) → I l w' → (∀ j, j < ops.size → φ j (v j) w') → Q .normal (fillFrom v ops.toList 0 a) w') : (Code.region id ops true).wp P Q a w := by
  refine wp_region_any hm ?_
  refine outline_walkD (I := I) (φ := φ) hap ok ?_ (acyc_of_back hback) ops.size _ _ _ ?_ ?_
  · intro listed a' w' h hall
    have hex : ∀ j, ∃ u, j < ops.size → φ j u w' ∧ ∀ o t, ops[j]? = some o → o.dst = some t → a'.tmps.getD t undef = u := by
      intro j
      by_cases hj : j < ops.size
      · have ho : ops[j]? = some ops[j] := Array.getElem?_eq_getElem hj
        cases hd : ops[j].dst with
        | none =>
          obtain ⟨u, hu⟩ := h.bare j _ ho (hall j hj) hd
          exact ⟨u, fun _ => ⟨hu, fun o t h1 h2 => by rw [ho] at h1; cases h1; rw [hd] at h2; cases h2⟩⟩
        | some t =>
          exact ⟨_, fun _ => ⟨h.has j _ t ho (hall j hj) hd, fun o t' h1 h2 => by rw [ho] at h1; cases h1; rw [hd] at h2; cases h2; rfl⟩⟩
      · exact ⟨undef, fun h => absurd h hj⟩
    have hv := fun j => Classical.choose_spec (hex j)
    have e : a' = fillFrom (fun j => Classical.choose (hex j)) ops.toList 0 a := by
      have hsz : a'.tmps = (fillFrom (fun j => Classical.choose (hex j)) ops.toList 0 a).tmps := by
        apply Array.ext
        · rw [fill_size, h.size]
        · intro t h1 h2
          have key : a'.tmps.getD t undef = (fillFrom (fun j => Classical.choose (hex j)) ops.toList 0 a).tmps.getD t undef := by
            by_cases hc : ∃ (j : Nat) (o : Oper), ops[j]? = some o ∧ o.dst = some t
            · obtain ⟨j, o, ho, hd⟩ := hc
              have hj : j < ops.size := (Array.getElem?_eq_some_iff.1 ho).1
              rw [fill_at _ t ops.toList 0 a j o (by simpa using ho) hd (apart_lt hap ho hd) (fun i o' hi hd' => apart_ne hap (by simpa using hi) ho hd' hd)]
              rw [Nat.zero_add]
              exact (hv j hj).2 o t ho hd
            · have hc' : ∀ (j : Nat) (o : Oper), ops[j]? = some o → o.dst ≠ some t := fun j o ho hd => hc ⟨j, o, ho, hd⟩
              rw [h.old t (fun j o ho _ => hc' j o ho), fill_other _ t ops.toList 0 a (fun o ho hd => by
                obtain ⟨i, hi⟩ := List.getElem?_of_mem ho
                exact hc' i o (by simpa using hi) hd)]
          rw [Array.getD_eq_getD_getElem?, Array.getD_eq_getD_getElem?, Array.getElem?_eq_getElem h1, Array.getElem?_eq_getElem h2] at key
          exact key
      have hdf : a'.defers = (fillFrom (fun j => Classical.choose (hex j)) ops.toList 0 a).defers := by rw [fill_defers, h.defers]
      cases a'
      cases hf : fillFrom (fun j => Classical.choose (hex j)) ops.toList 0 a
      rw [hf] at hsz hdf
      cases hsz
      cases hdf
      rfl
    rw [e]
    exact fin _ _ w' h.len hall h.inv (fun j hj => (hv j hj).1)
  · refine ⟨hI, rfl, rfl, by simp, ?_, ?_, ?_, ?_⟩
    · intro j o hj hl
      simp [Array.getD_eq_getD_getElem?, Array.getElem?_replicate] at hl
      split at hl <;> simp at hl
    · intro j o t hj hl
      simp [Array.getD_eq_getD_getElem?, Array.getElem?_replicate] at hl
      split at hl <;> simp at hl
    · intro j o hj hl
      simp [Array.getD_eq_getD_getElem?, Array.getElem?_replicate] at hl
      split at hl <;> simp at hl
    · intro t _
      rfl
  · simp

def OkAllD (P : Program) (ops : Array Oper) (Q : Exit → Act → World → Prop) (a : Act) (I : Array Bool → World → Prop) (L : List (Value → World → Prop)) : List Oper → Nat → Prop
  | [], _ => True
  | o :: l, k => OpOkD P ops Q a I (nth L) k o ∧ OkAllD P ops Q a I L l (k + 1)
theorem ok_allD {a : Act} {I : Array Bool → World → Prop} {L : List (Value → World → Prop)} : ∀ (l : List Oper) (k : Nat), OkAllD P ops Q a I L l k → ∀ i o, l[i]? = some o → OpOkD P ops Q a I (nth L) (k + i) o
  | [], _, _, i, o, h => by simp at h
  | o :: l, k, h, 0, o', h' => by
    simp only [List.getElem?_cons_zero, Option.some.injEq] at h'
    subst h'
    exact h.1
  | o :: l, k, h, i + 1, o', h' => by
    have := ok_allD l (k + 1) h.2 i o' (by simpa using h')
    rwa [show k + 1 + i = k + (i + 1) by omega] at this
theorem region_byD {id : Nat} {a : Act} {w : World} (I : Array Bool → World → Prop) (L : List (Value → World → Prop)) (hm : P.follows .mixedOrders = true)
    (hap : apartB ops a.tmps.size = true) (hback : backB ops = true) (hlen : L.length = ops.toList.length) (hI : I (Array.replicate ops.size false) w.drew)
    (ok : OkAllD P ops Q a I L ops.toList 0) (fin : ∀ l w', l.size = ops.size → (∀ i, i < ops.size → l.getD i false = true) → I l w' → FinGoal Q w' L ops.toList a) : (Code.region id ops true).wp P Q a w := by
  refine region_outlineD I (nth L) hm hap hback hI (fun i o h => ?_) (fun l v w' hl1 hl2 hI' hv => ?_)
  · have := ok_allD ops.toList 0 ok i o (by simpa using h)
    rwa [Nat.zero_add] at this
  · exact fin_goal v L ops.toList 0 a hlen (fin l w' hl1 hl2 hI') (fun j hj => by rw [Nat.zero_add]; exact hv j (by simpa using hj))

end Go.Proofs.Ytjakhemolecbnaa
end
