/-
  A region that draws its order, proved by an outline in which a property is kept only once its operation is done.
-/
import Derived.Test.YthlbmjjodjepjaaOutline
set_option linter.unusedVariables false
set_option linter.unusedSimpArgs false
namespace Go.Proofs.Ythlbmjjodjepjaa
open Go.RowKit

variable {P : Program} {ops : Array Oper} {Q : Exit → Act → World → Prop}

def OpOkM (P : Program) (ops : Array Oper) (Q : Exit → Act → World → Prop) (a : Act) (I : Array Bool → World → Prop) (φ : Nat → Value → World → Prop) (i : Nat) (o : Oper) : Prop :=
  ∀ (l : Array Bool) (a' : Act) (w' : World) (K : Act → World → Prop), I l w' → (∀ j k, edgeB ops j k = true → l.getD k false = false → l.getD j false = false) → l.size = ops.size → l.getD i false = false →
    (∀ j t, depB ops i j t = true → φ j (a'.tmps.getD t undef) w') →
    (∀ t, quietB ops i t = true → a'.tmps.getD t undef = a.tmps.getD t undef) →
    (∀ v w'', I (l.setIfInBounds i true) w'' → (∀ j u, l.getD j false = true → φ j u w' → φ j u w'') → φ i v w'' → K (a'.put o.dst v) w'') →
    if Region.wanted o (yielded ops a'.tmps) = true then o.wp P a' w' K Q else K (a'.put o.dst undef) w'

theorem Mid.stepM {a : Act} {I : Array Bool → World → Prop} {φ : Nat → Value → World → Prop} {listed : Array Bool} {a' : Act} {w' w'' : World} {i : Nat} {o : Oper} {v : Value}
    (hap : apartB ops a.tmps.size = true) (h : Mid ops a I φ listed a' w') (ho : ops[i]? = some o) (hn : listed.getD i true = false)
    (hb : ∀ e ∈ o.after.toList, Region.binds .any e = true → listed.getD e.on false = true)
    (hI : I (listed.setIfInBounds i true) w'') (hφ : ∀ j u, listed.getD j false = true → φ j u w' → φ j u w'') (hv : φ i v w'') : Mid ops a I φ (listed.setIfInBounds i true) (a'.put o.dst v) w'' := by
  have hi : i < ops.size := (Array.getElem?_eq_some_iff.1 ho).1
  have hil : i < listed.size := by rw [h.len]; exact hi
  refine ⟨hI, by rw [put_size, h.size], by rw [put_defers, h.defers], by simp [h.len], ?_, ?_, ?_, ?_⟩
  · intro j oj hj hl e he hbe
    rw [getD_set _ _ _ hil] at hl ⊢
    by_cases hji : j = i
    · subst hji
      rw [ho] at hj
      cases hj
      split
      · rfl
      · exact hb e he hbe
    · rw [if_neg hji] at hl
      split
      · rfl
      · exact h.closed j oj hj hl e he hbe
  · intro j oj t hj hl hd
    rw [getD_set _ _ _ hil] at hl
    by_cases hji : j = i
    · subst hji
      rw [ho] at hj
      cases hj
      rw [hd, put_getD_same _ _ _ (by rw [h.size]; exact apart_lt hap ho hd)]
      exact hv
    · rw [if_neg hji] at hl
      have h1 := hφ j _ hl (h.has j oj t hj hl hd)
      cases hdi : o.dst with
      | none => exact h1
      | some s =>
        have hst : t ≠ s := fun e => hji (by subst e; exact apart_ne hap hj ho hd hdi)
        rw [put_getD_other _ _ _ _ hst]
        exact h1
  · intro j oj hj hl hd
    rw [getD_set _ _ _ hil] at hl
    by_cases hji : j = i
    · subst hji
      exact ⟨v, hv⟩
    · rw [if_neg hji] at hl
      obtain ⟨u, hu⟩ := h.bare j oj hj hl hd
      exact ⟨u, hφ j u hl hu⟩
  · intro t ht
    have h1 : ∀ j oj, ops[j]? = some oj → listed.getD j false = true → oj.dst ≠ some t := by
      intro j oj hj hl
      refine ht j oj hj ?_
      rw [getD_set _ _ _ hil]
      split
      · rfl
      · exact hl
    have h2 : o.dst ≠ some t := ht i o ho (by rw [getD_set _ _ _ hil, if_pos rfl])
    rw [← h.old t h1]
    cases hdi : o.dst with
    | none => rfl
    | some s => exact put_getD_other _ _ _ _ (fun e => h2 (by rw [hdi, e]))

theorem outline_walkM {a : Act} {I : Array Bool → World → Prop} {φ : Nat → Value → World → Prop} (hap : apartB ops a.tmps.size = true)
    (ok : ∀ i o, ops[i]? = some o → OpOkM P ops Q a I φ i o)
    (fin : ∀ listed a' w', Mid ops a I φ listed a' w' → (∀ i, i < ops.size → listed.getD i false = true) → Q .normal a' w')
    (acyc : ∀ listed : Array Bool, listed.size = ops.size → Region.ready .any ops listed = [] → ∀ i, i < ops.size → listed.getD i false = true) :
    ∀ fuel listed a' w', Mid ops a I φ listed a' w' → (fuel + (listed.toList.filter id).length = ops.size) → wpAny P .any ops Q fuel listed a' w' := by
  intro fuel
  induction fuel with
  | zero =>
    intro listed a' w' h hf
    have hall : ∀ i, i < ops.size → listed.getD i false = true := by
      intro i hi
      have h1 : (listed.toList.filter id).length = listed.toList.length := by
        have := h.len
        have h3 : listed.toList.length = listed.size := Array.length_toList
        omega
      have h2 := List.length_filter_eq_length_iff.1 h1
      have hil : i < listed.size := by rw [h.len]; exact hi
      have := h2 listed[i] (by simp)
      simpa [Array.getD_eq_getD_getElem?, hil] using this
    refine ⟨?_, fin listed a' w' h hall⟩
    unfold Region.ready
    rw [List.filter_eq_nil_iff]
    intro i hi
    have h1 := hall i (List.mem_range.1 hi)
    have h2 : listed.getD i true = true := by
      have hil : i < listed.size := by rw [h.len]; exact List.mem_range.1 hi
      simpa [Array.getD_eq_getD_getElem?, hil] using h1
    simp [h2]
  | succ fuel ih =>
    intro listed a' w' h hf
    refine ⟨fun hr => fin listed a' w' h (acyc listed h.len hr), ?_⟩
    intro i hi
    unfold Region.ready at hi
    obtain ⟨hi1, hi2⟩ := List.mem_filter.1 hi
    have hi1 := List.mem_range.1 hi1
    have ho : ops[i]? = some ops[i] := Array.getElem?_eq_getElem hi1
    simp only [ho, Option.map_some, Option.getD_some, Bool.and_eq_true, Bool.not_eq_true'] at hi2
    obtain ⟨hn, hb⟩ := hi2
    have hil : i < listed.size := by rw [h.len]; exact hi1
    have hnf : listed.getD i false = false := by
      simpa [Array.getD_eq_getD_getElem?, hil] using hn
    have hb' : ∀ e ∈ ops[i].after.toList, Region.binds .any e = true → listed.getD e.on false = true := by
      intro e he hbe
      have h1 := Array.all_eq_true_iff_forall_mem.1 hb e (by simpa using he)
      simpa [hbe] using h1
    refine wpOp_step ho (fun K' hK => ?_)
    have hcl : ∀ j k, edgeB ops j k = true → listed.getD k false = false → listed.getD j false = false := by
      intro j k hjk hk
      unfold edgeB at hjk
      cases hoj : ops[j]? with
      | none => rw [hoj] at hjk; cases hjk
      | some oj =>
        rw [hoj] at hjk
        obtain ⟨e, he, h2⟩ := Array.any_eq_true'.1 hjk
        simp only [Bool.and_eq_true, beq_iff_eq] at h2
        cases hx : listed.getD j false with
        | false => rfl
        | true =>
          have h3 := h.closed j oj hoj hx e (by simpa using he) h2.1
          rw [h2.2, hk] at h3
          cases h3
    refine ok i ops[i] ho listed a' w' K' h.inv hcl h.len hnf ?_ ?_ ?_
    · intro j t hdep
      unfold depB at hdep
      rw [ho] at hdep
      cases hoj : ops[j]? with
      | none => rw [hoj] at hdep; cases hdep
      | some oj =>
        rw [hoj] at hdep
        simp only [Bool.and_eq_true, beq_iff_eq] at hdep
        obtain ⟨e, he, h2⟩ := Array.any_eq_true'.1 hdep.2
        simp only [Bool.and_eq_true, beq_iff_eq] at h2
        have h3 := hb' e (by simpa using he) h2.1
        rw [h2.2] at h3
        exact h.has j oj t hoj h3 hdep.1
    · intro t ht
      refine h.old t ?_
      intro j oj hj hl hd
      have hj1 : j < ops.size := (Array.getElem?_eq_some_iff.1 hj).1
      have h1 := List.all_eq_true.1 ht j (List.mem_range.2 hj1)
      simp only [hj, hd] at h1
      simp only [bne_self_eq_false, Bool.false_or, Bool.or_eq_true, beq_iff_eq] at h1
      rcases h1 with h1 | h1
      · subst h1
        rw [hnf] at hl
        cases hl
      · obtain ⟨e, he, h2⟩ := Array.any_eq_true'.1 h1
        simp only [Bool.and_eq_true, beq_iff_eq] at h2
        have h3 := h.closed j oj hj hl e (by simpa using he) h2.1
        rw [h2.2, hnf] at h3
        cases h3
    · intro v w'' hI hφ hv
      refine hK _ _ (ih _ _ _ (h.stepM hap ho hn hb' hI hφ hv) ?_)
      have hset : ((listed.setIfInBounds i true).toList.filter id).length = (listed.toList.filter id).length + 1 := by
        have hg : listed.toList[i]'(by simpa using hil) = false := by
          simpa [Array.getD_eq_getD_getElem?, hil] using hnf
        rw [Array.toList_setIfInBounds]
        have key : ∀ (l : List Bool) (i : Nat) (h : i < l.length), l[i] = false → ((l.set i true).filter id).length = (l.filter id).length + 1 := by
          intro l
          induction l with
          | nil => intro i h; simp at h
          | cons x l ihl =>
            intro i h hx
            cases i with
            | zero => simp only [List.getElem_cons_zero] at hx; subst hx; simp
            | succ i =>
              simp only [List.getElem_cons_succ] at hx
              have := ihl i (by simpa using h) hx
              cases x <;> simp [this]
        exact key _ _ _ hg
      omega

theorem region_outlineM {id : Nat} {a : Act} {w : World} (I : Array Bool → World → Prop) (φ : Nat → Value → World → Prop) (hm : P.follows .mixedOrders = true)
    (hap : apartB ops a.tmps.size = true) (hback : backB ops = true) (hI : I (Array.replicate ops.size false) w.drew)
    (ok : ∀ i o, ops[i]? = some o → OpOkM P ops Q a I φ i o)
    (fin : ∀ (l : Array Bool) (v : Nat → Value) (w' : World), l.size = ops.size → (∀ i, i < ops.size → l.getD i false = true) → I l w' → (∀ j, j < ops.size → φ j (v j) w') → Q .normal (fillFrom v ops.toList 0 a) w') : (Code.region id ops true).wp P Q a w := by
  refine wp_region_any hm ?_
  refine outline_walkM (I := I) (φ := φ) hap ok ?_ (acyc_of_back hback) ops.size _ _ _ ?_ ?_
  · intro listed a' w' h hall
    have hex : ∀ j, ∃ u, j < ops.size → φ j u w' ∧ ∀ o t, ops[j]? = some o → o.dst = some t → a'.tmps.getD t undef = u := by
      intro j
      by_cases hj : j < ops.size
      · have ho : ops[j]? = some ops[j] := Array.getElem?_eq_getElem hj
        cases hd : ops[j].dst with
        | none =>
          obtain ⟨u, hu⟩ := h.bare j _ ho (hall j hj) hd
          exact ⟨u, fun _ => ⟨hu, fun o t h1 h2 => by rw [ho] at h1; cases h1; rw [hd] at h2; cases h2⟩⟩
        | some t =>
          exact ⟨_, fun _ => ⟨h.has j _ t ho (hall j hj) hd, fun o t' h1 h2 => by rw [ho] at h1; cases h1; rw [hd] at h2; cases h2; rfl⟩⟩
      · exact ⟨undef, fun h => absurd h hj⟩
    have hv := fun j => Classical.choose_spec (hex j)
    have e : a' = fillFrom (fun j => Classical.choose (hex j)) ops.toList 0 a := by
      have hsz : a'.tmps = (fillFrom (fun j => Classical.choose (hex j)) ops.toList 0 a).tmps := by
        apply Array.ext
        · rw [fill_size, h.size]
        · intro t h1 h2
          have key : a'.tmps.getD t undef = (fillFrom (fun j => Classical.choose (hex j)) ops.toList 0 a).tmps.getD t undef := by
            by_cases hc : ∃ (j : Nat) (o : Oper), ops[j]? = some o ∧ o.dst = some t
            · obtain ⟨j, o, ho, hd⟩ := hc
              have hj : j < ops.size := (Array.getElem?_eq_some_iff.1 ho).1
              rw [fill_at _ t ops.toList 0 a j o (by simpa using ho) hd (apart_lt hap ho hd) (fun i o' hi hd' => apart_ne hap (by simpa using hi) ho hd' hd)]
              rw [Nat.zero_add]
              exact (hv j hj).2 o t ho hd
            · have hc' : ∀ (j : Nat) (o : Oper), ops[j]? = some o → o.dst ≠ some t := fun j o ho hd => hc ⟨j, o, ho, hd⟩
              rw [h.old t (fun j o ho _ => hc' j o ho), fill_other _ t ops.toList 0 a (fun o ho hd => by
                obtain ⟨i, hi⟩ := List.getElem?_of_mem ho
                exact hc' i o (by simpa using hi) hd)]
          rw [Array.getD_eq_getD_getElem?, Array.getD_eq_getD_getElem?, Array.getElem?_eq_getElem h1, Array.getElem?_eq_getElem h2] at key
          exact key
      have hdf : a'.defers = (fillFrom (fun j => Classical.choose (hex j)) ops.toList 0 a).defers := by rw [fill_defers, h.defers]
      cases a'
      cases hf : fillFrom (fun j => Classical.choose (hex j)) ops.toList 0 a
      rw [hf] at hsz hdf
      cases hsz
      cases hdf
      rfl
    rw [e]
    exact fin _ _ w' h.len hall h.inv (fun j hj => (hv j hj).1)
  · refine ⟨hI, rfl, rfl, by simp, ?_, ?_, ?_, ?_⟩
    · intro j o hj hl
      simp [Array.getD_eq_getD_getElem?, Array.getElem?_replicate] at hl
      split at hl <;> simp at hl
    · intro j o t hj hl
      simp [Array.getD_eq_getD_getElem?, Array.getElem?_replicate] at hl
      split at hl <;> simp at hl
    · intro j o hj hl
      simp [Array.getD_eq_getD_getElem?, Array.getElem?_replicate] at hl
      split at hl <;> simp at hl
    · intro t _
      rfl
  · simp

def OkAllM (P : Program) (ops : Array Oper) (Q : Exit → Act → World → Prop) (a : Act) (I : Array Bool → World → Prop) (L : List (Value → World → Prop)) : List Oper → Nat → Prop
  | [], _ => True
  | o :: l, k => OpOkM P ops Q a I (nth L) k o ∧ OkAllM P ops Q a I L l (k + 1)
theorem ok_allM {a : Act} {I : Array Bool → World → Prop} {L : List (Value → World → Prop)} : ∀ (l : List Oper) (k : Nat), OkAllM P ops Q a I L l k → ∀ i o, l[i]? = some o → OpOkM P ops Q a I (nth L) (k + i) o
  | [], _, _, i, o, h => by simp at h
  | o :: l, k, h, 0, o', h' => by
    simp only [List.getElem?_cons_zero, Option.some.injEq] at h'
    subst h'
    exact h.1
  | o :: l, k, h, i + 1, o', h' => by
    have := ok_allM l (k + 1) h.2 i o' (by simpa using h')
    rwa [show k + 1 + i = k + (i + 1) by omega] at this
theorem region_byM {id : Nat} {a : Act} {w : World} (I : Array Bool → World → Prop) (L : List (Value → World → Prop)) (hm : P.follows .mixedOrders = true)
    (hap : apartB ops a.tmps.size = true) (hback : backB ops = true) (hlen : L.length = ops.toList.length) (hI : I (Array.replicate ops.size false) w.drew)
    (ok : OkAllM P ops Q a I L ops.toList 0) (fin : ∀ l w', l.size = ops.size → (∀ i, i < ops.size → l.getD i false = true) → I l w' → FinGoal Q w' L ops.toList a) : (Code.region id ops true).wp P Q a w := by
  refine region_outlineM I (nth L) hm hap hback hI (fun i o h => ?_) (fun l v w' hl1 hl2 hI' hv => ?_)
  · have := ok_allM ops.toList 0 ok i o (by simpa using h)
    rwa [Nat.zero_add] at this
  · exact fin_goal v L ops.toList 0 a hlen (fin l w' hl1 hl2 hI') (fun j hj => by rw [Nat.zero_add]; exact hv j (by simpa using hj))

end Go.Proofs.Ythlbmjjodjepjaa
