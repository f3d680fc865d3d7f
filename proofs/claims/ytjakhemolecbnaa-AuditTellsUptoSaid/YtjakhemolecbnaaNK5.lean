/-
  The texts RefVerP of this proof in one (what is used of them): what each proves is said at its head. No conditions beyond those that each theorem says.
-/
import Derived.Test.YtjakhemolecbnaaNK4

/-
  The faults, by the reference's places (plain Lean).
-/
section
set_option linter.unusedVariables false
set_option linter.unusedSimpArgs false
namespace Go.Proofs.Ytjakhemolecbnaa
open Go.RowKit

theorem mem_one {b : Bool} {f x : Ft} : x ∈ one b f ↔ b = true ∧ x = f := by
  unfold one
  cases b <;> simp
/-- Where the faults are, of claims that are read whole. -/
theorem mem_faults {P : List Cp} (hlw : ∀ c ∈ P, c.lt = true ∧ c.whole = true) (f : Ft) : f ∈ faults P ↔ ∃ (i : Nat) (c : Cp), P[i]? = some c ∧
    ((∃ (j : Nat) (d : Cp), j < i ∧ P[j]? = some d ∧ d.group = c.group ∧ ¬ d.M.take (min d.M.length c.M.length) = c.M.take (min d.M.length c.M.length) ∧ f = (3, (i : Int), (unlikeS d.M c.M : Int))) ∨
     (∃ (a k : Nat) (m : Rp), c.recs[a]? = some m ∧ k < 4 ∧ brkP P i c a m k = true ∧ f = (4 + (k : Int), (i : Int), (a : Int)))) := by
  unfold faults
  rw [List.mem_flatMap]
  have key : ∀ i c, P[i]? = some c → (f ∈ clF P i ↔ ((∃ (j : Nat) (d : Cp), j < i ∧ P[j]? = some d ∧ d.group = c.group ∧ ¬ d.M.take (min d.M.length c.M.length) = c.M.take (min d.M.length c.M.length) ∧ f = (3, (i : Int), (unlikeS d.M c.M : Int))) ∨
     (∃ (a k : Nat) (m : Rp), c.recs[a]? = some m ∧ k < 4 ∧ brkP P i c a m k = true ∧ f = (4 + (k : Int), (i : Int), (a : Int))))) := by
    intro i c hc
    obtain ⟨h1, h2⟩ := hlw c (List.mem_of_getElem? hc)
    unfold clF
    rw [hc]
    dsimp only
    rw [if_neg (by simp [h1]), if_neg (by simp [h2]), List.mem_append, List.mem_flatMap, List.mem_flatMap]
    refine or_congr ⟨?_, ?_⟩ ⟨?_, ?_⟩
    · rintro ⟨j, hj, hf⟩
      unfold pfxF at hf
      split at hf
      · rename_i d hd
        rw [mem_one] at hf
        simp only [Bool.and_eq_true, decide_eq_true_eq, Bool.not_eq_true', decide_eq_false_iff_not] at hf
        exact ⟨j, d, List.mem_range.1 hj, hd, hf.1.2.1, hf.1.2.2, hf.2⟩
      · cases hf
    · rintro ⟨j, d, hj, hd, hg, hm, rfl⟩
      refine ⟨j, List.mem_range.2 hj, ?_⟩
      unfold pfxF
      rw [hd]
      dsimp only
      rw [mem_one]
      simp only [Bool.and_eq_true, decide_eq_true_eq, Bool.not_eq_true', decide_eq_false_iff_not]
      exact ⟨⟨(hlw d (List.mem_of_getElem? hd)).2, hg, hm⟩, trivial⟩
    · rintro ⟨a, ha, hf⟩
      unfold recF at hf
      split at hf
      · rename_i m hm
        obtain ⟨k, hk, hf⟩ := List.mem_flatMap.1 hf
        rw [mem_one] at hf
        exact ⟨a, k, m, hm, List.mem_range.1 hk, hf.1, hf.2⟩
      · cases hf
    · rintro ⟨a, k, m, hm, hk, hb, rfl⟩
      refine ⟨a, List.mem_range.2 (List.getElem?_eq_some_iff.1 hm).1, ?_⟩
      unfold recF
      rw [hm]
      exact List.mem_flatMap.2 ⟨k, List.mem_range.2 hk, mem_one.2 ⟨hb, rfl⟩⟩
  constructor
  · rintro ⟨i, hi, hf⟩
    have hi' := List.mem_range.1 hi
    have e := List.getElem?_eq_getElem hi'
    exact ⟨i, _, e, (key i _ e).1 hf⟩
  · rintro ⟨i, c, hc, h⟩
    exact ⟨i, List.mem_range.2 (List.getElem?_eq_some_iff.1 hc).1, (key i c hc).2 h⟩

/-- What breaks tells of a rule and a claim. -/
def told (F : Ft → Prop) (r : Int) (i : Nat) (x : Int) : Prop := (x = -1 ∧ ∀ a : Int, ¬ F (r, (i : Int), a)) ∨ (0 ≤ x ∧ F (r, (i : Int), x) ∧ ∀ a : Int, F (r, (i : Int), a) → x ≤ a)
theorem told3 {P : List Cp} {g : Nat → Int} {cs : List Rc} (h : Par P g cs) {i : Nat} {c : Rc} (hc : cs[i]? = some c) {x : Int} (hx : best3 (mis g cs i c) i x) : told (fun f => f ∈ faults P) 3 i x := by
  have hF : ∀ a : Int, ((3 : Int), (i : Int), a) ∈ faults P ↔ ∃ (j p : Nat), j < i ∧ mis g cs i c j = some p ∧ a = (p : Int) := by
    intro a
    rw [mem_faults h.lw]
    constructor
    · rintro ⟨i', c', hc', hh⟩
      rcases hh with ⟨j, d, hj, hd, hg, hm, e⟩ | ⟨a', k, m, _, _, _, e⟩
      · simp only [Prod.mk.injEq] at e
        obtain ⟨_, e2, e3⟩ := e
        obtain rfl : i = i' := by omega
        have hj2 : j < cs.length := by have := (List.getElem?_eq_some_iff.1 hc).1; omega
        have ed := List.getElem?_eq_getElem hj2
        have h1 := h.at_ j _ ed
        have h2 := h.at_ i c hc
        rw [hd] at h1
        rw [hc'] at h2
        obtain rfl := Option.some.inj h1
        obtain rfl := Option.some.inj h2
        refine ⟨j, _, hj, ?_, e3⟩
        unfold mis
        rw [ed]
        exact if_pos ⟨hg, hm⟩
      · simp only [Prod.mk.injEq] at e
        omega
    · rintro ⟨j, p, hj, hm, rfl⟩
      unfold mis at hm
      split at hm
      · rename_i d hd
        split at hm
        · rename_i hh
          cases hm
          exact ⟨i, _, h.at_ i c hc, .inl ⟨j, _, hj, h.at_ j d hd, hh.1, hh.2, rfl⟩⟩
        · cases hm
      · cases hm
  rcases hx with ⟨rfl, hn⟩ | ⟨q, rfl, ⟨j, hj, hq⟩, hl⟩
  · refine .inl ⟨rfl, fun a ha => ?_⟩
    obtain ⟨j, p, hj, hm, _⟩ := (hF a).1 ha
    rw [hn j hj] at hm
    cases hm
  · refine .inr ⟨by omega, (hF _).2 ⟨j, q, hj, hq, rfl⟩, fun a ha => ?_⟩
    obtain ⟨j', p, hj', hm, rfl⟩ := (hF a).1 ha
    have := hl j' hj' p hm
    omega
theorem told4 {P : List Cp} {g : Nat → Int} {cs : List Rc} (h : Par P g cs) {i : Nat} {c : Rc} (hc : cs[i]? = some c) {r : Int} (hr : 4 ≤ r ∧ r ≤ 7) {x : Int} (hx : firstIs (wrQ r cs i (g i) (c.recs.map Rm.p)) c.recs.length x) : told (fun f => f ∈ faults P) r i x := by
  obtain ⟨k, hk, rfl⟩ : ∃ k : Nat, k < 4 ∧ r = 4 + (k : Int) := ⟨(r - 4).toNat, by omega, by omega⟩
  have hF : ∀ a : Int, ((4 + (k : Int) : Int), (i : Int), a) ∈ faults P ↔ ∃ q : Nat, q < c.recs.length ∧ wrQ (4 + (k : Int)) cs i (g i) (c.recs.map Rm.p) q = true ∧ a = (q : Int) := by
    intro a
    rw [mem_faults h.lw]
    constructor
    · rintro ⟨i', c', hc', hh⟩
      rcases hh with ⟨j, d, hj, hd, hg, hm, e⟩ | ⟨a', k', m, hm, hk', hb, e⟩
      · simp only [Prod.mk.injEq] at e
        omega
      · simp only [Prod.mk.injEq] at e
        obtain ⟨e1, e2, e3⟩ := e
        obtain rfl : i = i' := by omega
        obtain rfl : k = k' := by omega
        have h2 := h.at_ i c hc
        rw [hc'] at h2
        obtain rfl := Option.some.inj h2
        dsimp only at hm
        refine ⟨a', ?_, ?_, e3⟩
        · have := (List.getElem?_eq_some_iff.1 hm).1
          simpa using this
        · rw [wrQ_brk h hc k hk a' m hm]
          exact hb
    · rintro ⟨q, hq, hw, rfl⟩
      have hq' : q < (c.recs.map Rm.p).length := by simpa using hq
      have em := List.getElem?_eq_getElem hq'
      refine ⟨i, _, h.at_ i c hc, .inr ⟨q, k, _, em, hk, ?_, rfl⟩⟩
      rw [← wrQ_brk h hc k hk q _ em]
      exact hw
  rcases hx with ⟨rfl, hn⟩ | ⟨q, rfl, hq, hw, hl⟩
  · refine .inl ⟨rfl, fun a ha => ?_⟩
    obtain ⟨q, hq, hw, _⟩ := (hF a).1 ha
    rw [hn q hq] at hw
    cases hw
  · refine .inr ⟨by omega, (hF _).2 ⟨q, hq, hw, rfl⟩, fun a ha => ?_⟩
    obtain ⟨p, hp, hwp, rfl⟩ := (hF a).1 ha
    by_cases hpq : p < q
    · rw [hl p hpq] at hwp; cases hwp
    · omega
/-- The faults from a rule and a claim on. -/
def upFrom (P : List Cp) (r : Int) (i : Nat) : Prop := ∀ f ∈ faults P, r < f.1 ∨ (f.1 = r ∧ (i : Int) ≤ f.2.1)
theorem upFrom_found {P : List Cp} {r : Int} {i : Nat} {x : Int} (h : upFrom P r i) (hx : told (fun f => f ∈ faults P) r i x) (h0 : 0 ≤ x) : verP P = (r, (i : Int), x) := by
  rcases hx with ⟨e, _⟩ | ⟨_, hf, hl⟩
  · omega
  · refine ver_least hf (fun f hf2 => ?_)
    rw [ltF_iff]
    dsimp only
    have h1 := h f hf2
    intro h2
    rcases h2 with h2 | ⟨h2, h3 | ⟨h3, h4⟩⟩
    · omega
    · omega
    · have e : f = (r, (i : Int), f.2.2) := by
        obtain ⟨a, b, c⟩ := f
        simp only at h2 h3 ⊢
        rw [h2, h3]
      rw [e] at hf2
      have := hl _ hf2
      omega
theorem upFrom_next {P : List Cp} {r : Int} {i : Nat} {x : Int} (h : upFrom P r i) (hx : told (fun f => f ∈ faults P) r i x) (h0 : x < 0) : upFrom P r (i + 1) := by
  intro f hf
  rcases h f hf with h1 | ⟨h1, h2⟩
  · exact .inl h1
  · refine .inr ⟨h1, ?_⟩
    by_cases e : f.2.1 = (i : Int)
    · exfalso
      rcases hx with ⟨_, hn⟩ | ⟨h3, _⟩
      · refine hn f.2.2 ?_
        have e2 : f = (r, (i : Int), f.2.2) := by
          obtain ⟨a, b, c⟩ := f
          simp only at h1 e ⊢
          rw [h1, e]
        rw [← e2]
        exact hf
      · omega
    · omega
theorem fault_in {P : List Cp} (hlw : ∀ c ∈ P, c.lt = true ∧ c.whole = true) {f : Ft} (hf : f ∈ faults P) : 3 ≤ f.1 ∧ f.1 ≤ 7 ∧ 0 ≤ f.2.1 ∧ f.2.1 < (P.length : Int) := by
  obtain ⟨i, c, hc, h⟩ := (mem_faults hlw f).1 hf
  have hi := (List.getElem?_eq_some_iff.1 hc).1
  rcases h with ⟨j, d, _, _, _, _, rfl⟩ | ⟨a, k, m, _, hk, _, rfl⟩
  · exact ⟨by simp, by simp, by simp, by simpa using hi⟩
  · simp only []
    exact ⟨by omega, by omega, by omega, by omega⟩
theorem upFrom_start {P : List Cp} (hlw : ∀ c ∈ P, c.lt = true ∧ c.whole = true) : upFrom P 3 0 := by
  intro f hf
  have := fault_in hlw hf
  by_cases h : f.1 = 3
  · exact .inr ⟨h, by omega⟩
  · exact .inl (by omega)
theorem upFrom_rule {P : List Cp} (hlw : ∀ c ∈ P, c.lt = true ∧ c.whole = true) {r : Int} (h : upFrom P r P.length) : upFrom P (r + 1) 0 := by
  intro f hf
  have h1 := fault_in hlw hf
  rcases h f hf with h2 | ⟨h2, h3⟩
  · by_cases h4 : f.1 = r + 1
    · exact .inr ⟨h4, by omega⟩
    · exact .inl (by omega)
  · omega
theorem upFrom_end {P : List Cp} (hlw : ∀ c ∈ P, c.lt = true ∧ c.whole = true) (h : upFrom P 8 0) : verP P = (0, 0, 0) := by
  have e : faults P = [] := by
    cases hfs : faults P with
    | nil => rfl
    | cons f l =>
      have hf : f ∈ faults P := by rw [hfs]; simp
      have h1 := fault_in hlw hf
      rcases h f hf with h2 | ⟨h2, _⟩ <;> omega
  unfold verP
  rw [e]
  rfl
/-- The first claim that is not let by, or not whole. -/
theorem ver_first {P : List Cp} {i : Nat} {c : Cp} (hc : P[i]? = some c) (hb : c.lt = false) (hf : ∀ (j : Nat) (d : Cp), j < i → P[j]? = some d → d.lt = true) : verP P = (1, (i : Int), c.en) := by
  have hin : ((1 : Int), (i : Int), c.en) ∈ faults P := by
    unfold faults
    refine List.mem_flatMap.2 ⟨i, List.mem_range.2 (List.getElem?_eq_some_iff.1 hc).1, ?_⟩
    unfold clF
    rw [hc]
    dsimp only
    rw [if_pos hb]
    simp
  refine ver_least hin (fun f hfm => ?_)
  have hp := (faults_pos P f hfm).1
  rw [ltF_iff]
  dsimp only
  intro h
  have h1 : f.1 = 1 ∧ (f.2.1 < (i : Int) ∨ (f.2.1 = (i : Int) ∧ f.2.2 < c.en)) := by
    rcases h with h | h
    · omega
    · exact h
  unfold faults at hfm
  obtain ⟨k, hk, hfm⟩ := List.mem_flatMap.1 hfm
  have hk := List.mem_range.1 hk
  have ek := List.getElem?_eq_getElem hk
  unfold clF at hfm
  rw [ek] at hfm
  dsimp only at hfm
  by_cases hl : P[k].lt = false
  · rw [if_pos hl] at hfm
    have e := List.mem_singleton.1 hfm
    have hki : ¬ k < i := fun hlt2 => by have := hf k _ hlt2 ek; rw [hl] at this; cases this
    rw [e] at h1
    simp only at h1
    by_cases hke : k = i
    · subst hke
      rw [ek] at hc
      cases hc
      omega
    · omega
  · rw [if_neg hl] at hfm
    split at hfm
    · have e := List.mem_singleton.1 hfm
      rw [e] at h1
      exact absurd h1.1 (by simp)
    · rcases List.mem_append.1 hfm with hfm | hfm
      · obtain ⟨j, _, hfm⟩ := List.mem_flatMap.1 hfm
        unfold pfxF at hfm
        split at hfm
        · rw [mem_one] at hfm
          rw [hfm.2] at h1
          exact absurd h1.1 (by simp)
        · cases hfm
      · obtain ⟨a, _, hfm⟩ := List.mem_flatMap.1 hfm
        unfold recF at hfm
        split at hfm
        · obtain ⟨k', _, hfm⟩ := List.mem_flatMap.1 hfm
          rw [mem_one] at hfm
          rw [hfm.2] at h1
          simp only at h1
          omega
        · cases hfm
theorem ver_second {P : List Cp} {i : Nat} {c : Cp} (hc : P[i]? = some c) (hlt : ∀ d ∈ P, d.lt = true) (hb : c.whole = false) (hf : ∀ (j : Nat) (d : Cp), j < i → P[j]? = some d → d.whole = true) : verP P = (2, (i : Int), c.en) := by
  have hin : ((2 : Int), (i : Int), c.en) ∈ faults P := by
    unfold faults
    refine List.mem_flatMap.2 ⟨i, List.mem_range.2 (List.getElem?_eq_some_iff.1 hc).1, ?_⟩
    unfold clF
    rw [hc]
    dsimp only
    rw [if_neg (by rw [hlt c (List.mem_of_getElem? hc)]; simp), if_pos hb]
    simp
  refine ver_least hin (fun f hfm => ?_)
  rw [ltF_iff]
  dsimp only
  intro h
  unfold faults at hfm
  obtain ⟨k, hk, hfm⟩ := List.mem_flatMap.1 hfm
  have hk := List.mem_range.1 hk
  have ek := List.getElem?_eq_getElem hk
  unfold clF at hfm
  rw [ek] at hfm
  dsimp only at hfm
  rw [if_neg (by rw [hlt _ (List.getElem_mem hk)]; simp)] at hfm
  by_cases hl : P[k].whole = false
  · rw [if_pos hl] at hfm
    have e := List.mem_singleton.1 hfm
    have hki : ¬ k < i := fun hlt2 => by have := hf k _ hlt2 ek; rw [hl] at this; cases this
    rw [e] at h
    simp only at h
    by_cases hke : k = i
    · subst hke
      rw [ek] at hc
      cases hc
      omega
    · omega
  · rw [if_neg hl] at hfm
    rcases List.mem_append.1 hfm with hfm | hfm
    · obtain ⟨j, _, hfm⟩ := List.mem_flatMap.1 hfm
      unfold pfxF at hfm
      split at hfm
      · rw [mem_one] at hfm
        rw [hfm.2] at h
        simp only at h
        omega
      · cases hfm
    · obtain ⟨a, _, hfm⟩ := List.mem_flatMap.1 hfm
      unfold recF at hfm
      split at hfm
      · obtain ⟨k', _, hfm⟩ := List.mem_flatMap.1 hfm
        rw [mem_one] at hfm
        rw [hfm.2] at h
        simp only at h
        omega
      · cases hfm
end Go.Proofs.Ytjakhemolecbnaa
end
