/-
  A region that draws its order, proved by an outline: of each operation a property of its value and of the world (kept by every later step); each operation is walked once, in whatever world and order.
-/
import Derived.Test.YthlbmjjodjepjaaBase
set_option linter.unusedVariables false
set_option linter.unusedSimpArgs false
namespace Go.Proofs.Ythlbmjjodjepjaa
open Go.RowKit

variable {P : Program} {ops : Array Oper} {Q : Exit → Act → World → Prop}

/-- The slot t is written by no operation but i and those that wait for i. -/
def quietB (ops : Array Oper) (i t : Nat) : Bool :=
  (List.range ops.size).all fun j => match ops[j]? with
    | some o => o.dst != some t || j == i || o.after.any fun e => Region.binds .any e && e.on == i
    | none => true
/-- No two operations write one slot. -/
def apartB (ops : Array Oper) (n : Nat) : Bool :=
  (List.range ops.size).all fun i => match ops[i]? with
    | some o => (match o.dst with | some t => decide (t < n) | none => true) && (List.range ops.size).all fun j => match ops[j]? with
        | some o' => i == j || o.dst == none || o.dst != o'.dst
        | none => true
    | none => true

/-- Operation i waits for j, which writes slot t. -/
def depB (ops : Array Oper) (i j t : Nat) : Bool :=
  match ops[i]?, ops[j]? with
  | some o, some o' => o'.dst == some t && o.after.any fun e => Region.binds .any e && e.on == j
  | _, _ => false

/-- Operation j waits for k. -/
def edgeB (ops : Array Oper) (j k : Nat) : Bool :=
  match ops[j]? with
  | some o => o.after.any fun e => Region.binds .any e && e.on == k
  | none => false

def OpOk (P : Program) (ops : Array Oper) (Q : Exit → Act → World → Prop) (a : Act) (I : Array Bool → World → Prop) (φ : Nat → Value → World → Prop) (i : Nat) (o : Oper) : Prop :=
  ∀ (l : Array Bool) (a' : Act) (w' : World) (K : Act → World → Prop), I l w' → (∀ j k, edgeB ops j k = true → l.getD k false = false → l.getD j false = false) → l.size = ops.size → l.getD i false = false →
    (∀ j t, depB ops i j t = true → φ j (a'.tmps.getD t undef) w') →
    (∀ t, quietB ops i t = true → a'.tmps.getD t undef = a.tmps.getD t undef) →
    (∀ v w'', I (l.setIfInBounds i true) w'' → (∀ j u, φ j u w' → φ j u w'') → φ i v w'' → K (a'.put o.dst v) w'') →
    if Region.wanted o (yielded ops a'.tmps) = true then o.wp P a' w' K Q else K (a'.put o.dst undef) w'

/-- The frame with all destinations filled. -/
def fillFrom (v : Nat → Value) : List Oper → Nat → Act → Act
  | [], _, a => a
  | o :: l, k, a => fillFrom v l (k + 1) (a.put o.dst (v k))

structure Mid (ops : Array Oper) (a : Act) (I : Array Bool → World → Prop) (φ : Nat → Value → World → Prop) (listed : Array Bool) (a' : Act) (w' : World) : Prop where
  inv : I listed w'
  size : a'.tmps.size = a.tmps.size
  defers : a'.defers = a.defers
  len : listed.size = ops.size
  closed : ∀ j o, ops[j]? = some o → listed.getD j false = true → ∀ e ∈ o.after.toList, Region.binds .any e = true → listed.getD e.on false = true
  has : ∀ j o t, ops[j]? = some o → listed.getD j false = true → o.dst = some t → φ j (a'.tmps.getD t undef) w'
  bare : ∀ j o, ops[j]? = some o → listed.getD j false = true → o.dst = none → ∃ u, φ j u w'
  old : ∀ t, (∀ j o, ops[j]? = some o → listed.getD j false = true → o.dst ≠ some t) → a'.tmps.getD t undef = a.tmps.getD t undef

theorem put_getD_same (a : Act) (t : Nat) (v : Value) (h : t < a.tmps.size) : (a.put (some t) v).tmps.getD t undef = v := by
  simp [Act.put, h]
theorem put_getD_other (a : Act) (t s : Nat) (v : Value) (h : s ≠ t) : (a.put (some t) v).tmps.getD s undef = a.tmps.getD s undef := by
  simp [Act.put, Array.getD_eq_getD_getElem?, Array.getElem?_setIfInBounds, Ne.symm h]
theorem put_size (a : Act) (d : Option Tmp) (v : Value) : (a.put d v).tmps.size = a.tmps.size := by
  cases d <;> simp [Act.put]
theorem put_defers (a : Act) (d : Option Tmp) (v : Value) : (a.put d v).defers = a.defers := by
  cases d <;> rfl

theorem apart_lt {n i : Nat} {o : Oper} {t : Nat} (h : apartB ops n = true) (ho : ops[i]? = some o) (hd : o.dst = some t) : t < n := by
  have hi : i < ops.size := (Array.getElem?_eq_some_iff.1 ho).1
  have := List.all_eq_true.1 h i (List.mem_range.2 hi)
  simp only [ho, hd, Bool.and_eq_true, decide_eq_true_eq] at this
  exact this.1
theorem apart_ne {n i j : Nat} {o o' : Oper} {t : Nat} (h : apartB ops n = true) (ho : ops[i]? = some o) (ho' : ops[j]? = some o') (hd : o.dst = some t) (hd' : o'.dst = some t) : i = j := by
  have hi : i < ops.size := (Array.getElem?_eq_some_iff.1 ho).1
  have hj : j < ops.size := (Array.getElem?_eq_some_iff.1 ho').1
  have := List.all_eq_true.1 h i (List.mem_range.2 hi)
  simp only [ho, hd, Bool.and_eq_true] at this
  have h2 := List.all_eq_true.1 this.2 j (List.mem_range.2 hj)
  simp only [ho', hd'] at h2
  simpa using h2

theorem getD_set (l : Array Bool) (i j : Nat) (hi : i < l.size) : (l.setIfInBounds i true).getD j false = if j = i then true else l.getD j false := by
  simp only [Array.getD_eq_getD_getElem?, Array.getElem?_setIfInBounds]
  by_cases h : i = j
  · subst h; simp [hi]
  · simp [h, Ne.symm h]

theorem Mid.step {a : Act} {I : Array Bool → World → Prop} {φ : Nat → Value → World → Prop} {listed : Array Bool} {a' : Act} {w' w'' : World} {i : Nat} {o : Oper} {v : Value}
    (hap : apartB ops a.tmps.size = true) (h : Mid ops a I φ listed a' w') (ho : ops[i]? = some o) (hn : listed.getD i true = false)
    (hb : ∀ e ∈ o.after.toList, Region.binds .any e = true → listed.getD e.on false = true)
    (hI : I (listed.setIfInBounds i true) w'') (hφ : ∀ j u, φ j u w' → φ j u w'') (hv : φ i v w'') : Mid ops a I φ (listed.setIfInBounds i true) (a'.put o.dst v) w'' := by
  have hi : i < ops.size := (Array.getElem?_eq_some_iff.1 ho).1
  have hil : i < listed.size := by rw [h.len]; exact hi
  refine ⟨hI, by rw [put_size, h.size], by rw [put_defers, h.defers], by simp [h.len], ?_, ?_, ?_, ?_⟩
  · intro j oj hj hl e he hbe
    rw [getD_set _ _ _ hil] at hl ⊢
    by_cases hji : j = i
    · subst hji
      rw [ho] at hj
      cases hj
      split
      · rfl
      · exact hb e he hbe
    · rw [if_neg hji] at hl
      split
      · rfl
      · exact h.closed j oj hj hl e he hbe
  · intro j oj t hj hl hd
    rw [getD_set _ _ _ hil] at hl
    by_cases hji : j = i
    · subst hji
      rw [ho] at hj
      cases hj
      rw [hd, put_getD_same _ _ _ (by rw [h.size]; exact apart_lt hap ho hd)]
      exact hv
    · rw [if_neg hji] at hl
      have h1 := hφ j _ (h.has j oj t hj hl hd)
      cases hdi : o.dst with
      | none => exact h1
      | some s =>
        have hst : t ≠ s := fun e => hji (by subst e; exact apart_ne hap hj ho hd hdi)
        rw [put_getD_other _ _ _ _ hst]
        exact h1
  · intro j oj hj hl hd
    rw [getD_set _ _ _ hil] at hl
    by_cases hji : j = i
    · subst hji
      exact ⟨v, hv⟩
    · rw [if_neg hji] at hl
      obtain ⟨u, hu⟩ := h.bare j oj hj hl hd
      exact ⟨u, hφ j u hu⟩
  · intro t ht
    have h1 : ∀ j oj, ops[j]? = some oj → listed.getD j false = true → oj.dst ≠ some t := by
      intro j oj hj hl
      refine ht j oj hj ?_
      rw [getD_set _ _ _ hil]
      split
      · rfl
      · exact hl
    have h2 : o.dst ≠ some t := ht i o ho (by rw [getD_set _ _ _ hil, if_pos rfl])
    rw [← h.old t h1]
    cases hdi : o.dst with
    | none => rfl
    | some s => exact put_getD_other _ _ _ _ (fun e => h2 (by rw [hdi, e]))

theorem outline_walk {a : Act} {I : Array Bool → World → Prop} {φ : Nat → Value → World → Prop} (hap : apartB ops a.tmps.size = true)
    (ok : ∀ i o, ops[i]? = some o → OpOk P ops Q a I φ i o)
    (fin : ∀ listed a' w', Mid ops a I φ listed a' w' → (∀ i, i < ops.size → listed.getD i false = true) → Q .normal a' w')
    (acyc : ∀ listed : Array Bool, listed.size = ops.size → Region.ready .any ops listed = [] → ∀ i, i < ops.size → listed.getD i false = true) :
    ∀ fuel listed a' w', Mid ops a I φ listed a' w' → (fuel + (listed.toList.filter id).length = ops.size) → wpAny P .any ops Q fuel listed a' w' := by
  intro fuel
  induction fuel with
  | zero =>
    intro listed a' w' h hf
    have hall : ∀ i, i < ops.size → listed.getD i false = true := by
      intro i hi
      have h1 : (listed.toList.filter id).length = listed.toList.length := by
        have := h.len
        have h3 : listed.toList.length = listed.size := Array.length_toList
        omega
      have h2 := List.length_filter_eq_length_iff.1 h1
      have hil : i < listed.size := by rw [h.len]; exact hi
      have := h2 listed[i] (by simp)
      simpa [Array.getD_eq_getD_getElem?, hil] using this
    refine ⟨?_, fin listed a' w' h hall⟩
    unfold Region.ready
    rw [List.filter_eq_nil_iff]
    intro i hi
    have h1 := hall i (List.mem_range.1 hi)
    have h2 : listed.getD i true = true := by
      have hil : i < listed.size := by rw [h.len]; exact List.mem_range.1 hi
      simpa [Array.getD_eq_getD_getElem?, hil] using h1
    simp [h2]
  | succ fuel ih =>
    intro listed a' w' h hf
    refine ⟨fun hr => fin listed a' w' h (acyc listed h.len hr), ?_⟩
    intro i hi
    unfold Region.ready at hi
    obtain ⟨hi1, hi2⟩ := List.mem_filter.1 hi
    have hi1 := List.mem_range.1 hi1
    have ho : ops[i]? = some ops[i] := Array.getElem?_eq_getElem hi1
    simp only [ho, Option.map_some, Option.getD_some, Bool.and_eq_true, Bool.not_eq_true'] at hi2
    obtain ⟨hn, hb⟩ := hi2
    have hil : i < listed.size := by rw [h.len]; exact hi1
    have hnf : listed.getD i false = false := by
      simpa [Array.getD_eq_getD_getElem?, hil] using hn
    have hb' : ∀ e ∈ ops[i].after.toList, Region.binds .any e = true → listed.getD e.on false = true := by
      intro e he hbe
      have h1 := Array.all_eq_true_iff_forall_mem.1 hb e (by simpa using he)
      simpa [hbe] using h1
    refine wpOp_step ho (fun K' hK => ?_)
    have hcl : ∀ j k, edgeB ops j k = true → listed.getD k false = false → listed.getD j false = false := by
      intro j k hjk hk
      unfold edgeB at hjk
      cases hoj : ops[j]? with
      | none => rw [hoj] at hjk; cases hjk
      | some oj =>
        rw [hoj] at hjk
        obtain ⟨e, he, h2⟩ := Array.any_eq_true'.1 hjk
        simp only [Bool.and_eq_true, beq_iff_eq] at h2
        cases hx : listed.getD j false with
        | false => rfl
        | true =>
          have h3 := h.closed j oj hoj hx e (by simpa using he) h2.1
          rw [h2.2, hk] at h3
          cases h3
    refine ok i ops[i] ho listed a' w' K' h.inv hcl h.len hnf ?_ ?_ ?_
    · intro j t hdep
      unfold depB at hdep
      rw [ho] at hdep
      cases hoj : ops[j]? with
      | none => rw [hoj] at hdep; cases hdep
      | some oj =>
        rw [hoj] at hdep
        simp only [Bool.and_eq_true, beq_iff_eq] at hdep
        obtain ⟨e, he, h2⟩ := Array.any_eq_true'.1 hdep.2
        simp only [Bool.and_eq_true, beq_iff_eq] at h2
        have h3 := hb' e (by simpa using he) h2.1
        rw [h2.2] at h3
        exact h.has j oj t hoj h3 hdep.1
    · intro t ht
      refine h.old t ?_
      intro j oj hj hl hd
      have hj1 : j < ops.size := (Array.getElem?_eq_some_iff.1 hj).1
      have h1 := List.all_eq_true.1 ht j (List.mem_range.2 hj1)
      simp only [hj, hd] at h1
      simp only [bne_self_eq_false, Bool.false_or, Bool.or_eq_true, beq_iff_eq] at h1
      rcases h1 with h1 | h1
      · subst h1
        rw [hnf] at hl
        cases hl
      · obtain ⟨e, he, h2⟩ := Array.any_eq_true'.1 h1
        simp only [Bool.and_eq_true, beq_iff_eq] at h2
        have h3 := h.closed j oj hj hl e (by simpa using he) h2.1
        rw [h2.2, hnf] at h3
        cases h3
    · intro v w'' hI hφ hv
      refine hK _ _ (ih _ _ _ (h.step hap ho hn hb' hI hφ hv) ?_)
      have hset : ((listed.setIfInBounds i true).toList.filter id).length = (listed.toList.filter id).length + 1 := by
        have hg : listed.toList[i]'(by simpa using hil) = false := by
          simpa [Array.getD_eq_getD_getElem?, hil] using hnf
        rw [Array.toList_setIfInBounds]
        have key : ∀ (l : List Bool) (i : Nat) (h : i < l.length), l[i] = false → ((l.set i true).filter id).length = (l.filter id).length + 1 := by
          intro l
          induction l with
          | nil => intro i h; simp at h
          | cons x l ihl =>
            intro i h hx
            cases i with
            | zero => simp only [List.getElem_cons_zero] at hx; subst hx; simp
            | succ i =>
              simp only [List.getElem_cons_succ] at hx
              have := ihl i (by simpa using h) hx
              cases x <;> simp [this]
        exact key _ _ _ hg
      omega

theorem fill_other (v : Nat → Value) (t : Nat) : ∀ (l : List Oper) (k : Nat) (a : Act), (∀ o ∈ l, o.dst ≠ some t) → (fillFrom v l k a).tmps.getD t undef = a.tmps.getD t undef
  | [], _, _, _ => rfl
  | o :: l, k, a, h => by
    rw [fillFrom, fill_other v t l (k + 1) _ (fun o' ho' => h o' (List.mem_cons_of_mem _ ho'))]
    cases hd : o.dst with
    | none => rfl
    | some s => exact put_getD_other _ _ _ _ (fun e => h o (List.mem_cons_self) (by rw [hd, e]))
theorem fill_size (v : Nat → Value) : ∀ (l : List Oper) (k : Nat) (a : Act), (fillFrom v l k a).tmps.size = a.tmps.size
  | [], _, _ => rfl
  | o :: l, k, a => by rw [fillFrom, fill_size v l, put_size]
theorem fill_defers (v : Nat → Value) : ∀ (l : List Oper) (k : Nat) (a : Act), (fillFrom v l k a).defers = a.defers
  | [], _, _ => rfl
  | o :: l, k, a => by rw [fillFrom, fill_defers v l, put_defers]
theorem fill_at (v : Nat → Value) (t : Nat) : ∀ (l : List Oper) (k : Nat) (a : Act) (j : Nat) (o : Oper), l[j]? = some o → o.dst = some t → t < a.tmps.size →
    (∀ i o', l[i]? = some o' → o'.dst = some t → i = j) → (fillFrom v l k a).tmps.getD t undef = v (k + j)
  | [], _, _, _, _, h, _, _, _ => by simp at h
  | o :: l, k, a, 0, o1, h, hd, hs, hu => by
    simp only [List.getElem?_cons_zero, Option.some.injEq] at h
    subst h
    rw [fillFrom, fill_other v t l (k + 1), hd, put_getD_same _ _ _ hs]
    · rfl
    · intro o' ho' hd'
      obtain ⟨i, hi⟩ := List.getElem?_of_mem ho'
      have := hu (i + 1) o' (by simpa using hi) hd'
      omega
  | o :: l, k, a, j + 1, o1, h, hd, hs, hu => by
    simp only [List.getElem?_cons_succ] at h
    rw [fillFrom, fill_at v t l (k + 1) _ j o1 h hd (by rw [put_size]; exact hs) (fun i o' hi hd' => by
      have := hu (i + 1) o' (by simpa using hi) hd'
      omega)]
    congr 1
    omega

/-- Every operation waits for earlier ones alone. -/
def backB (ops : Array Oper) : Bool :=
  (List.range ops.size).all fun i => match ops[i]? with
    | some o => o.after.all fun e => decide (e.on < i)
    | none => true

theorem acyc_of_back (h : backB ops = true) : ∀ listed : Array Bool, listed.size = ops.size → Region.ready .any ops listed = [] → ∀ i, i < ops.size → listed.getD i false = true := by
  intro listed hl hr i
  induction i using Nat.strongRecOn with
  | _ i ih =>
    intro hi
    cases hx : listed.getD i false with
    | true => rfl
    | false =>
      exfalso
      have hil : i < listed.size := by rw [hl]; exact hi
      have hm : i ∈ Region.ready .any ops listed := by
        unfold Region.ready
        refine List.mem_filter.2 ⟨List.mem_range.2 hi, ?_⟩
        have ho : ops[i]? = some ops[i] := Array.getElem?_eq_getElem hi
        simp only [ho, Option.map_some, Option.getD_some, Bool.and_eq_true, Bool.not_eq_true']
        refine ⟨by simpa [Array.getD_eq_getD_getElem?, hil] using hx, ?_⟩
        rw [Array.all_eq_true_iff_forall_mem]
        intro e he
        have h1 := List.all_eq_true.1 h i (List.mem_range.2 hi)
        simp only [ho] at h1
        have h2 := Array.all_eq_true_iff_forall_mem.1 h1 e he
        have h3 : e.on < i := by simpa using h2
        rw [ih e.on h3 (by omega)]
        simp
      rw [hr] at hm
      cases hm

/-- THE RULE. -/
theorem region_outline {id : Nat} {a : Act} {w : World} (I : Array Bool → World → Prop) (φ : Nat → Value → World → Prop) (hm : P.follows .mixedOrders = true)
    (hap : apartB ops a.tmps.size = true) (hback : backB ops = true) (hI : I (Array.replicate ops.size false) w.drew)
    (ok : ∀ i o, ops[i]? = some o → OpOk P ops Q a I φ i o)
    (fin : ∀ (l : Array Bool) (v : Nat → Value) (w' : World), l.size = ops.size → (∀ i, i < ops.size → l.getD i false = true) → I l w' → (∀ j, j < ops.size → φ j (v j) w') → Q .normal (fillFrom v ops.toList 0 a) w') : (Code.region id ops true).wp P Q a w := by
  refine wp_region_any hm ?_
  refine outline_walk (I := I) (φ := φ) hap ok ?_ (acyc_of_back hback) ops.size _ _ _ ?_ ?_
  · intro listed a' w' h hall
    have hex : ∀ j, ∃ u, j < ops.size → φ j u w' ∧ ∀ o t, ops[j]? = some o → o.dst = some t → a'.tmps.getD t undef = u := by
      intro j
      by_cases hj : j < ops.size
      · have ho : ops[j]? = some ops[j] := Array.getElem?_eq_getElem hj
        cases hd : ops[j].dst with
        | none =>
          obtain ⟨u, hu⟩ := h.bare j _ ho (hall j hj) hd
          exact ⟨u, fun _ => ⟨hu, fun o t h1 h2 => by rw [ho] at h1; cases h1; rw [hd] at h2; cases h2⟩⟩
        | some t =>
          exact ⟨_, fun _ => ⟨h.has j _ t ho (hall j hj) hd, fun o t' h1 h2 => by rw [ho] at h1; cases h1; rw [hd] at h2; cases h2; rfl⟩⟩
      · exact ⟨undef, fun h => absurd h hj⟩
    have hv := fun j => Classical.choose_spec (hex j)
    have e : a' = fillFrom (fun j => Classical.choose (hex j)) ops.toList 0 a := by
      have hsz : a'.tmps = (fillFrom (fun j => Classical.choose (hex j)) ops.toList 0 a).tmps := by
        apply Array.ext
        · rw [fill_size, h.size]
        · intro t h1 h2
          have key : a'.tmps.getD t undef = (fillFrom (fun j => Classical.choose (hex j)) ops.toList 0 a).tmps.getD t undef := by
            by_cases hc : ∃ (j : Nat) (o : Oper), ops[j]? = some o ∧ o.dst = some t
            · obtain ⟨j, o, ho, hd⟩ := hc
              have hj : j < ops.size := (Array.getElem?_eq_some_iff.1 ho).1
              rw [fill_at _ t ops.toList 0 a j o (by simpa using ho) hd (apart_lt hap ho hd) (fun i o' hi hd' => apart_ne hap (by simpa using hi) ho hd' hd)]
              rw [Nat.zero_add]
              exact (hv j hj).2 o t ho hd
            · have hc' : ∀ (j : Nat) (o : Oper), ops[j]? = some o → o.dst ≠ some t := fun j o ho hd => hc ⟨j, o, ho, hd⟩
              rw [h.old t (fun j o ho _ => hc' j o ho), fill_other _ t ops.toList 0 a (fun o ho hd => by
                obtain ⟨i, hi⟩ := List.getElem?_of_mem ho
                exact hc' i o (by simpa using hi) hd)]
          rw [Array.getD_eq_getD_getElem?, Array.getD_eq_getD_getElem?, Array.getElem?_eq_getElem h1, Array.getElem?_eq_getElem h2] at key
          exact key
      have hdf : a'.defers = (fillFrom (fun j => Classical.choose (hex j)) ops.toList 0 a).defers := by rw [fill_defers, h.defers]
      cases a'
      cases hf : fillFrom (fun j => Classical.choose (hex j)) ops.toList 0 a
      rw [hf] at hsz hdf
      cases hsz
      cases hdf
      rfl
    rw [e]
    exact fin _ _ w' h.len hall h.inv (fun j hj => (hv j hj).1)
  · refine ⟨hI, rfl, rfl, by simp, ?_, ?_, ?_, ?_⟩
    · intro j o hj hl
      simp [Array.getD_eq_getD_getElem?, Array.getElem?_replicate] at hl
      split at hl <;> simp at hl
    · intro j o t hj hl
      simp [Array.getD_eq_getD_getElem?, Array.getElem?_replicate] at hl
      split at hl <;> simp at hl
    · intro j o hj hl
      simp [Array.getD_eq_getD_getElem?, Array.getElem?_replicate] at hl
      split at hl <;> simp at hl
    · intro t _
      rfl
  · simp

/-! The rule over a list of properties. -/
def nth (L : List (Value → World → Prop)) (j : Nat) : Value → World → Prop := L.getD j (fun _ _ => True)
def OkAll (P : Program) (ops : Array Oper) (Q : Exit → Act → World → Prop) (a : Act) (I : Array Bool → World → Prop) (L : List (Value → World → Prop)) : List Oper → Nat → Prop
  | [], _ => True
  | o :: l, k => OpOk P ops Q a I (nth L) k o ∧ OkAll P ops Q a I L l (k + 1)
theorem ok_all {a : Act} {I : Array Bool → World → Prop} {L : List (Value → World → Prop)} : ∀ (l : List Oper) (k : Nat), OkAll P ops Q a I L l k → ∀ i o, l[i]? = some o → OpOk P ops Q a I (nth L) (k + i) o
  | [], _, _, i, o, h => by simp at h
  | o :: l, k, h, 0, o', h' => by
    simp only [List.getElem?_cons_zero, Option.some.injEq] at h'
    subst h'
    exact h.1
  | o :: l, k, h, i + 1, o', h' => by
    have := ok_all l (k + 1) h.2 i o' (by simpa using h')
    rwa [show k + 1 + i = k + (i + 1) by omega] at this
def FinGoal (Q : Exit → Act → World → Prop) (w' : World) : List (Value → World → Prop) → List Oper → Act → Prop
  | p :: L, o :: l, a => ∀ v, p v w' → FinGoal Q w' L l (a.put o.dst v)
  | _, _, a => Q .normal a w'
theorem fin_goal {w' : World} (v : Nat → Value) : ∀ (L : List (Value → World → Prop)) (l : List Oper) (k : Nat) (a : Act), L.length = l.length → FinGoal Q w' L l a →
    (∀ j, j < l.length → nth L j (v (k + j)) w') → Q .normal (fillFrom v l k a) w'
  | [], [], _, _, _, h, _ => h
  | p :: L, o :: l, k, a, hl, h, hv => by
    refine fin_goal v L l (k + 1) _ (by simpa using hl) (h (v k) (hv 0 (by simp))) (fun j hj => ?_)
    have := hv (j + 1) (by simpa using hj)
    rw [show k + 1 + j = k + (j + 1) by omega]
    exact this
  | [], _ :: _, _, _, hl, _, _ => by simp at hl
  | _ :: _, [], _, _, hl, _, _ => by simp at hl

theorem region_byL {id : Nat} {a : Act} {w : World} (I : Array Bool → World → Prop) (L : List (Value → World → Prop)) (hm : P.follows .mixedOrders = true)
    (hap : apartB ops a.tmps.size = true) (hback : backB ops = true) (hlen : L.length = ops.toList.length) (hI : I (Array.replicate ops.size false) w.drew)
    (ok : OkAll P ops Q a I L ops.toList 0) (fin : ∀ l w', l.size = ops.size → (∀ i, i < ops.size → l.getD i false = true) → I l w' → FinGoal Q w' L ops.toList a) : (Code.region id ops true).wp P Q a w := by
  refine region_outline I (nth L) hm hap hback hI (fun i o h => ?_) (fun l v w' hl1 hl2 hI' hv => ?_)
  · have := ok_all ops.toList 0 ok i o (by simpa using h)
    rwa [Nat.zero_add] at this
  · exact fin_goal v L ops.toList 0 a hlen (fin l w' hl1 hl2 hI') (fun j hj => by rw [Nat.zero_add]; exact hv j (by simpa using hj))

/-- The rule where the invariant is of the world alone. -/
def OpOk1 (P : Program) (ops : Array Oper) (Q : Exit → Act → World → Prop) (a : Act) (I : World → Prop) (φ : Nat → Value → World → Prop) (i : Nat) (o : Oper) : Prop :=
  ∀ (a' : Act) (w' : World) (K : Act → World → Prop), I w' →
    (∀ j t, depB ops i j t = true → φ j (a'.tmps.getD t undef) w') →
    (∀ t, quietB ops i t = true → a'.tmps.getD t undef = a.tmps.getD t undef) →
    (∀ v w'', I w'' → (∀ j u, φ j u w' → φ j u w'') → φ i v w'' → K (a'.put o.dst v) w'') →
    if Region.wanted o (yielded ops a'.tmps) = true then o.wp P a' w' K Q else K (a'.put o.dst undef) w'
def OkAll1 (P : Program) (ops : Array Oper) (Q : Exit → Act → World → Prop) (a : Act) (I : World → Prop) (L : List (Value → World → Prop)) : List Oper → Nat → Prop
  | [], _ => True
  | o :: l, k => OpOk1 P ops Q a I (nth L) k o ∧ OkAll1 P ops Q a I L l (k + 1)
theorem ok_of_1 {a : Act} {I : World → Prop} {L : List (Value → World → Prop)} : ∀ (l : List Oper) (k : Nat), OkAll1 P ops Q a I L l k → OkAll P ops Q a (fun _ w' => I w') L l k
  | [], _, _ => trivial
  | _ :: l, k, h => ⟨fun _ a' w' K hI _ _ _ hd hq hK => h.1 a' w' K hI hd hq hK, ok_of_1 l (k + 1) h.2⟩
theorem region_by {id : Nat} {a : Act} {w : World} (I : World → Prop) (L : List (Value → World → Prop)) (hm : P.follows .mixedOrders = true)
    (hap : apartB ops a.tmps.size = true) (hback : backB ops = true) (hlen : L.length = ops.toList.length) (hI : I w.drew)
    (ok : OkAll1 P ops Q a I L ops.toList 0) (fin : ∀ w', I w' → FinGoal Q w' L ops.toList a) : (Code.region id ops true).wp P Q a w :=
  region_byL (fun _ w' => I w') L hm hap hback hlen hI (ok_of_1 ops.toList 0 ok) (fun _ w' _ _ hI' => fin w' hI')

/-- An operation that gives a value and leaves the world. -/
theorem op_value {a' : Act} {w' w'' : World} {K : Act → World → Prop} {o : Oper} {v : Value} (hw : Region.wanted o (yielded ops a'.tmps) = true) (hrun : (execOp a'.eval o).run P w' = .ok (.value v) w'') (hK : K (a'.put o.dst v) w'') :
    if Region.wanted o (yielded ops a'.tmps) = true then o.wp P a' w' K Q else K (a'.put o.dst undef) w' := by
  rw [if_pos hw]
  unfold Oper.wp
  rw [hrun]
  exact hK
/-- A call of a Go function, by its contract. -/
theorem op_call {a' : Act} {w' : World} {K : Act → World → Prop} {o : Oper} {f : FuncId} {fn : Func} {xs : Array Operand} {ts : Array TypeId} (args : Array Value) (hw : Region.wanted o (yielded ops a'.tmps) = true)
    (hop : o.op = .call { callee := .value (.func f), args := xs, argTypes := ts }) (hf : P.funcs[f]? = some fn) (hname : (fn.name == "runtime.NumGoroutine") = false) (hb : fn.body.isSome = true)
    (hargs : xs.map a'.eval = args) (h : Calls P f args w' fun e w'' => ∃ v, e = .returned v ∧ K (a'.put o.dst v) w'') :
    if Region.wanted o (yielded ops a'.tmps) = true then o.wp P a' w' K Q else K (a'.put o.dst undef) w' := by
  rw [if_pos hw]
  have h1 : fn.name ≠ "runtime.NumGoroutine" := by simpa using hname
  obtain ⟨c, hc⟩ := Option.isSome_iff_exists.1 hb
  have he : (callFunc f args).run P w' = .ok (.enter f args) w' := by simp [callFunc, hf, h1, hc]
  have hrun : (execOp a'.eval o).run P w' = .ok (.enter f args) w' := by
    unfold execOp
    simp [hop, resolve, Deferred.ofValue, invoke, Act.eval, hargs, he]
  unfold Oper.wp
  rw [hrun, Oper.upon_enter]
  refine h.mono fun e w'' hh => ?_
  obtain ⟨v, rfl, hk⟩ := hh
  exact hk
theorem wanted_free (o : Oper) (y : Nat → Option Bool) (h : o.guard = none) : Region.wanted o y = true := by simp [Region.wanted, h]
theorem wanted_on (o : Oper) (a' : Act) (j t : Nat) (b : Bool) (h : o.guard = some (j, b)) (ht : (ops[j]?).bind (·.dst) = some t) (hv : a'.tmps.getD t undef = .bool b) : Region.wanted o (yielded ops a'.tmps) = true := by
  cases ho : ops[j]? with
  | none => rw [ho] at ht; cases ht
  | some oj =>
    rw [ho] at ht
    have ht' : oj.dst = some t := ht
    rw [Array.getD_eq_getD_getElem?] at hv
    cases hx : a'.tmps[t]? with
    | none => rw [hx] at hv; simp [undef] at hv
    | some u =>
      rw [hx] at hv
      have hv' : u = .bool b := hv
      simp [Region.wanted, h, yielded, ho, ht', hx, hv']

end Go.Proofs.Ythlbmjjodjepjaa
