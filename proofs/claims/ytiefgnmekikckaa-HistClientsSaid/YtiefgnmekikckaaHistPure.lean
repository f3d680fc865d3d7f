/-
  What the calls of events are: one client's come one behind the other; the counts.
-/
import Derived.Test.YtiefgnmekikckaaHistOps
set_option linter.unusedVariables false
set_option linter.unusedSimpArgs false
namespace Go.Proofs.Ytiefgnmekikckaa

def calledN (l : List (Int × Int)) : Nat := l.countP fun q => decide (q.1 = 1)
def answeredN (l : List (Int × Int)) : Nat := l.countP fun q => decide (q.1 = 2)
def endedN (P : List Pc) : Nat := P.countP fun q => decide (0 ≤ q.2.2)

structure HInv (s : List Pc × (Int → Nat)) (i a b : Nat) : Prop where
  frm : ∀ j (h : j < s.1.length), 0 ≤ s.1[j].2.1 ∧ s.1[j].2.1 < (i : Int)
  inc : ∀ j k (h : k < s.1.length) (hj : j < k), (s.1[j]'(by omega)).2.1 < s.1[k].2.1
  opn : ∀ c p, s.2 c = p + 1 → ∃ h : p < s.1.length, s.1[p].1 = c ∧ s.1[p].2.2 = -1
  shut : ∀ j (h : j < s.1.length), s.1[j].2.2 = -1 ∧ s.2 s.1[j].1 = j + 1 ∨ 0 ≤ s.1[j].2.2 ∧ s.1[j].2.2 < (i : Int)
  apart : ∀ j k (h : k < s.1.length) (hj : j < k), (s.1[j]'(by omega)).1 = s.1[k].1 → 0 ≤ (s.1[j]'(by omega)).2.2 ∧ (s.1[j]'(by omega)).2.2 < s.1[k].2.1
  na : s.1.length = a
  nb : endedN s.1 = b

theorem HInv.start : HInv hstart 0 0 0 :=
  ⟨(fun j h => by cases h), (fun j k h => by cases h), (fun c p h => by cases h), (fun j h => by cases h), (fun j k h => by cases h), rfl, rfl⟩

theorem hstep_inv {s s' : List Pc × (Int → Nat)} {i a b : Nat} {k c : Int} (hi : HInv s i a b) (h : hstep s i k c = some s') :
    HInv s' (i + 1) (a + (if k = 1 then 1 else 0)) (b + (if k = 2 then 1 else 0)) := by
  obtain ⟨P, f⟩ := s
  obtain ⟨hfrm, hinc, hopn, hshut, hapart, hna, hnb⟩ := hi
  try simp only at hfrm hinc hopn hshut hapart hna hnb
  unfold hstep at h
  try simp only at h
  by_cases h3 : k = 3
  · subst h3
    rw [if_pos rfl] at h
    cases h
    exact ⟨fun j hj => by have := hfrm j hj; simp only; omega, hinc, hopn, fun j hj => by have := hshut j hj; simp only; omega, hapart, hna, hnb⟩
  · rw [if_neg h3] at h
    by_cases hbad : (k ≠ 1 ∧ k ≠ 2) ∨ c < 0 ∨ ((k = 1) ≠ (f c = 0))
    · rw [if_pos hbad] at h
      cases h
    · rw [if_neg hbad] at h
      by_cases h1 : k = 1
      · subst h1
        have hf : f c = 0 := by
          by_cases h0 : f c = 0
          · exact h0
          · exact absurd (.inr (.inr (by simp [h0]))) hbad
        rw [if_pos rfl] at h
        cases h
        show HInv (P ++ [(c, (i : Int), -1)], fun z => if z = c then P.length + 1 else f z) (i + 1) _ _
        have hl : (P ++ [(c, (i : Int), -1)]).length = P.length + 1 := by simp
        have hold : ∀ j (h : j < P.length), (P ++ [(c, (i : Int), (-1 : Int))])[j]'(by omega) = P[j] := fun j h => List.getElem_append_left h
        have hnew : (P ++ [(c, (i : Int), (-1 : Int))])[P.length]'(by omega) = (c, (i : Int), -1) := by simp
        have hcl : ∀ j (h : j < P.length), P[j].1 = c → 0 ≤ P[j].2.2 ∧ P[j].2.2 < (i : Int) := fun j h e => by
          rcases hshut j h with ⟨_, h2⟩ | h2
          · rw [e, hf] at h2
            omega
          · exact h2
        refine ⟨fun j hj => ?_, fun j q hq hj => ?_, fun z p hz => ?_, fun j hj => ?_, fun j q hq hj e => ?_, ?_, ?_⟩
        · try simp only at hj ⊢
          rw [hl] at hj
          by_cases hjl : j < P.length
          · simp only [hold j hjl]
            have := hfrm j hjl
            try simp only at this
            omega
          · obtain rfl : j = P.length := by omega
            simp only [hnew]
            omega
        · try simp only at hq ⊢
          rw [hl] at hq
          by_cases hql : q < P.length
          · simp only [hold q hql, hold j (by omega)]
            exact hinc j q hql hj
          · obtain rfl : q = P.length := by omega
            simp only [hnew, hold j hj]
            exact (hfrm j hj).2
        · by_cases e : z = c
          · subst e
            simp only [if_true] at hz
            obtain rfl : p = P.length := by omega
            exact ⟨by simp only [hl]; omega, by simp only [hnew], by simp only [hnew]⟩
          · simp only [if_neg e] at hz
            obtain ⟨h0, h1, h2⟩ := hopn z p hz
            exact ⟨by simp only [hl]; exact Nat.lt_succ_of_lt h0, by simp only [hold p h0]; exact h1, by simp only [hold p h0]; exact h2⟩
        · try simp only at hj ⊢
          rw [hl] at hj
          by_cases hjl : j < P.length
          · simp only [hold j hjl]
            rcases hshut j hjl with ⟨e1, e2⟩ | e
            · by_cases e3 : P[j].1 = c
              · have := hcl j hjl e3
                try simp only at e1
                omega
              · exact .inl ⟨e1, by rw [if_neg e3]; exact e2⟩
            · right
              try simp only at e
              omega
          · obtain rfl : j = P.length := by omega
            simp only [hnew]
            exact .inl ⟨trivial, by simp⟩
        · try simp only at hq ⊢
          rw [hl] at hq
          by_cases hql : q < P.length
          · simp only [hold q hql, hold j (by omega)] at e ⊢
            exact hapart j q hql hj e
          · obtain rfl : q = P.length := by omega
            simp only [hnew, hold j hj] at e ⊢
            exact hcl j hj e
        · have := hna
          try simp only at this
          rw [hl]
          simp [this]
        · have := hnb
          simp only [endedN] at this ⊢
          rw [List.countP_append, this]
          simp
      · have hk2 : k = 2 := by
          by_cases h2 : k = 2
          · exact h2
          · exact absurd (.inl ⟨h1, h2⟩) hbad
        subst hk2
        have hf : ¬ f c = 0 := fun h0 => hbad (.inr (.inr (by simp [h0])))
        rw [if_neg h1] at h
        cases h
        obtain ⟨p, hp⟩ : ∃ p, f c = p + 1 := ⟨f c - 1, by omega⟩
        obtain ⟨hpl, hpc, hpt⟩ := hopn c p hp
        have hm : P.modify (f c - 1) (fun q => (q.1, q.2.1, (i : Int))) = P.set p (c, P[p].2.1, (i : Int)) := by
          rw [hp, Nat.add_sub_cancel, List.modify_eq_set, List.getElem?_eq_getElem hpl]
          simp only [Option.map_some, Option.getD_some]
          try simp only at hpc
          rw [hpc]
        rw [show (P.modify (f c - 1) (fun q => (q.1, q.2.1, (i : Int))), fun z => if z = c then 0 else f z) = (P.set p (c, P[p].2.1, (i : Int)), fun z => if z = c then 0 else f z) by rw [hm]]
        have hl : (P.set p (c, P[p].2.1, (i : Int))).length = P.length := List.length_set
        have hold : ∀ j (h : j < P.length), ¬ j = p → (P.set p (c, P[p].2.1, (i : Int)))[j]'(by rw [hl]; exact h) = P[j] := fun j h e => List.getElem_set_ne (fun h => e h.symm) _
        have hnew : (P.set p (c, P[p].2.1, (i : Int)))[p]'(by rw [hl]; exact hpl) = (c, P[p].2.1, (i : Int)) := List.getElem_set_self _
        have hfr : ∀ j (h : j < P.length), ((P.set p (c, P[p].2.1, (i : Int)))[j]'(by rw [hl]; exact h)).2.1 = P[j].2.1 := fun j h => by
          by_cases e : j = p
          · subst e; rw [hnew]
          · rw [hold j h e]
        have hcr : ∀ j (h : j < P.length), ((P.set p (c, P[p].2.1, (i : Int)))[j]'(by rw [hl]; exact h)).1 = P[j].1 := fun j h => by
          by_cases e : j = p
          · subst e; rw [hnew]; exact hpc.symm
          · rw [hold j h e]
        refine ⟨fun j hj => ?_, fun j q hq hj => ?_, fun z q hz => ?_, fun j hj => ?_, fun j q hq hj e => ?_, ?_, ?_⟩
        · try simp only at hj ⊢
          rw [hl] at hj
          simp only [hfr j hj]
          have := hfrm j hj
          try simp only at this
          omega
        · try simp only at hq ⊢
          rw [hl] at hq
          simp only [hfr q hq, hfr j (by omega)]
          exact hinc j q hq hj
        · by_cases e : z = c
          · subst e
            simp only [if_true] at hz
            omega
          · simp only [if_neg e] at hz
            obtain ⟨h0, h1', h2⟩ := hopn z q hz
            have hqp : ¬ q = p := by
              rintro rfl
              exact e (h1'.symm.trans hpc)
            exact ⟨by simp only [hl]; exact h0, by simp only [hold q h0 hqp]; exact h1', by simp only [hold q h0 hqp]; exact h2⟩
        · try simp only at hj ⊢
          rw [hl] at hj
          by_cases e : j = p
          · subst e
            simp only [hnew]
            right
            omega
          · simp only [hold j hj e]
            rcases hshut j hj with ⟨e1, e2⟩ | e1
            · refine .inl ⟨e1, ?_⟩
              have hc : ¬ P[j].1 = c := by
                intro h
                try simp only at e2
                rw [h, hp] at e2
                omega
              try simp only at e2
              rw [if_neg hc]
              exact e2
            · right
              try simp only at e1
              omega
        · try simp only at hq ⊢
          rw [hl] at hq
          have hq2 : q < P.length := hq
          have hjl : j < P.length := by omega
          simp only [hcr q hq2, hcr j hjl, hfr q hq2] at e ⊢
          by_cases ej : j = p
          · subst ej
            have := hapart j q hq2 hj e
            try simp only at this hpt
            omega
          · simp only [hold j hjl ej]
            exact hapart j q hq2 hj e
        · have := hna
          try simp only at this
          rw [hl]
          simp [this]
        · have h5 := hnb
          simp only [endedN] at h5 ⊢
          have hsplit : P = P.take p ++ P[p] :: P.drop (p + 1) := by
            rw [← List.drop_eq_getElem_cons hpl, List.take_append_drop]
          have hset : P.set p (c, P[p].2.1, (i : Int)) = P.take p ++ (c, P[p].2.1, (i : Int)) :: P.drop (p + 1) := by
            rw [List.set_eq_take_append_cons_drop, if_pos hpl]
          rw [hset, List.countP_append, List.countP_cons]
          rw [hsplit, List.countP_append, List.countP_cons] at h5
          try simp only at hpt
          simp only [hpt] at h5
          have hn : decide ((0 : Int) ≤ -1) = false := by decide
          have hy : decide ((0 : Int) ≤ (i : Int)) = true := by simp
          simp only [hn, hy, if_true, Bool.false_eq_true, if_false] at h5 ⊢
          omega

theorem hrun_inv : ∀ (l : List (Int × Int)) (i a b : Nat) (s s' : List Pc × (Int → Nat)), HInv s i a b → hrun l i s = .ok s' → HInv s' (i + l.length) (a + calledN l) (b + answeredN l)
  | [], i, a, b, s, s', h, e => by
    cases e
    exact h
  | q :: l, i, a, b, s, s', h, e => by
    unfold hrun at e
    cases hs : hstep s i q.1 q.2 with
    | none => rw [hs] at e; cases e
    | some s1 =>
      rw [hs] at e
      have h1 := hstep_inv h hs
      have h2 := hrun_inv l (i + 1) _ _ s1 s' h1 e
      have e1 : calledN (q :: l) = (if q.1 = 1 then 1 else 0) + calledN l := by
        simp only [calledN, List.countP_cons]
        by_cases h : q.1 = 1 <;> simp [h] <;> omega
      have e2 : answeredN (q :: l) = (if q.1 = 2 then 1 else 0) + answeredN l := by
        simp only [answeredN, List.countP_cons]
        by_cases h : q.1 = 2 <;> simp [h] <;> omega
      rw [e1, e2, List.length_cons, show i + (l.length + 1) = i + 1 + l.length by omega, ← Nat.add_assoc, ← Nat.add_assoc]
      exact h2

end Go.Proofs.Ytiefgnmekikckaa
