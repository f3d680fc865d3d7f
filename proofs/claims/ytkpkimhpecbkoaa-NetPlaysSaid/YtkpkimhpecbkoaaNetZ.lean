/-
  Both nets and what is kept beside them: each call in all its cases.
-/
import Derived.Test.YtkpkimhpecbkoaaNetPair
import Derived.Test.YtkpkimhpecbkoaaKnown5
set_option linter.unusedVariables false
set_option linter.unusedSimpArgs false
namespace Go.Proofs.Ytkpkimhpecbkoaa
open Go.RowKit

/-- Both nets, apart from the blocks K. -/
def NZ (w0 w : World) (K : Nat → Prop) (p q : Nat) (nodes s1 : Int) (l1 : List Pl) (s2 : Int) (l2 : List Pl) : Prop :=
  ∃ v u, NPair w0 w p q v u nodes s1 l1 s2 l2 ∧ ∀ k, K k → k < w.heap.size ∧ ¬ nfoot p v k ∧ ¬ nfoot q u k
def sendTo (nodes s : Int) (l : List Pl) (f t : Int) (b : List UInt8) : Int × Int × List Pl :=
  if f < 0 ∨ nodes ≤ f ∨ t < 0 ∨ nodes ≤ t then (1, s, l) else if 512 ≤ l.length then (13, s, l) else (0, s + 1, l ++ [(f, t, b)])
def takeOf (k : Int) (l : List Pl) : Pl × Bool := match l[placeOf k l.length]? with | some z => (z, true) | none => ((0, 0, []), false)
def twiceOf (k : Int) (l : List Pl) : Bool × List Pl := match l[placeOf k l.length]? with | some z => if 512 ≤ l.length then (false, l) else (true, l ++ [z]) | none => (false, l)
theorem place_none {k : Int} {l : List Pl} (h : l[placeOf k l.length]? = none) : l = [] := by
  cases l with
  | nil => rfl
  | cons a l =>
    have := placeOf_lt k (n := (a :: l).length) (by simp)
    rw [List.getElem?_eq_getElem this] at h
    cases h
theorem place_pos {k : Int} {l : List Pl} {z : Pl} (h : l[placeOf k l.length]? = some z) : 0 < l.length := by
  cases l with
  | nil => simp at h
  | cons a l => simp
namespace NZ
variable {w0 w w' : World} {K K' : Nat → Prop} {p q : Nat} {nodes s1 s2 : Int} {l1 l2 : List Pl}
theorem wide (h : NZ w0 w K p q nodes s1 l1 s2 l2) (hb : Below w.heap.size w w') (hK : ∀ k, K' k → K k ∨ (w.heap.size ≤ k ∧ k < w'.heap.size)) : NZ w0 w' K' p q nodes s1 l1 s2 l2 := by
  obtain ⟨v, u, h1, h2⟩ := h
  refine ⟨v, u, h1.below hb, fun k hk => ?_⟩
  rcases hK k hk with h | ⟨ha, hb'⟩
  · exact ⟨Nat.lt_of_lt_of_le (h2 k h).1 hb.size, (h2 k h).2⟩
  · exact ⟨hb', fun hf => by have := h1.nt.foot_lt k hf; omega, fun hf => by have := h1.r.foot_lt k hf; omega⟩
theorem below (h : NZ w0 w K p q nodes s1 l1 s2 l2) (hb : Below w.heap.size w w') : NZ w0 w' K p q nodes s1 l1 s2 l2 := h.wide hb (fun _ hk => .inl hk)
theorem drew (h : NZ w0 w K p q nodes s1 l1 s2 l2) : NZ w0 w.drew K p q nodes s1 l1 s2 l2 := h.below ((Below.refl _ _).drew)
theorem bel (h : NZ w0 w K p q nodes s1 l1 s2 l2) : Below w0.heap.size w0 w := by
  obtain ⟨v, u, h1, h2⟩ := h
  exact h1.bel
theorem less (h : NZ w0 w K p q nodes s1 l1 s2 l2) (hK : ∀ k, K' k → K k) : NZ w0 w K' p q nodes s1 l1 s2 l2 := h.wide (Below.refl _ _) (fun k hk => .inl (hK k hk))
theorem refl_upd (w : World) : Upd (fun k => ¬ K k) w w := Upd.refl _ w
end NZ
theorem Moved.off {w w' : World} {p : Nat} {v v' : Value} {k : Nat} (h : Moved w p v v' w') (hk : k < w.heap.size) (hf : ¬ nfoot p v k) : ¬ nfoot p v' k := by
  rintro (e | e)
  · exact hf (.inl e)
  · rcases h.blk k e with e | e
    · exact hf (.inr e)
    · omega
theorem Moved.keep {w w' : World} {K : Nat → Prop} {p : Nat} {v v' : Value} (h : Moved w p v v' w') (hK : ∀ k, K k → ¬ nfoot p v k) : Upd (fun k => ¬ K k) w w' :=
  h.upd.mono (fun k _ hf hk => hK k hk hf)
namespace NZ
variable {w0 w w' : World} {K K' : Nat → Prop} {p q : Nat} {nodes s1 s2 : Int} {l1 l2 : List Pl}
/-- What the program's net has moved to. -/
theorem of_n {v v' u : Value} {s1' : Int} {l1' : List Pl} (hn : NPair w0 w' p q v' u nodes s1' l1' s2 l2) (hm : Moved w p v v' w') (hK : ∀ k, K k → k < w.heap.size ∧ ¬ nfoot p v k ∧ ¬ nfoot q u k) : NZ w0 w' K p q nodes s1' l1' s2 l2 ∧ Upd (fun k => ¬ K k) w w' :=
  ⟨⟨v', u, hn, fun k hk => ⟨Nat.lt_of_lt_of_le (hK k hk).1 hm.upd.size, hm.off (hK k hk).1 (hK k hk).2.1, (hK k hk).2.2⟩⟩, hm.keep (fun k hk => (hK k hk).2.1)⟩
theorem of_r {v u u' : Value} {s2' : Int} {l2' : List Pl} (hn : NPair w0 w' p q v u' nodes s1 l1 s2' l2') (hm : Moved w q u u' w') (hK : ∀ k, K k → k < w.heap.size ∧ ¬ nfoot p v k ∧ ¬ nfoot q u k) : NZ w0 w' K p q nodes s1 l1 s2' l2' ∧ Upd (fun k => ¬ K k) w w' :=
  ⟨⟨v, u', hn, fun k hk => ⟨Nat.lt_of_lt_of_le (hK k hk).1 hm.upd.size, (hK k hk).2.1, hm.off (hK k hk).1 (hK k hk).2.2⟩⟩, hm.keep (fun k hk => (hK k hk).2.2)⟩

theorem send (h : NZ w0 w K p q nodes s1 l1 s2 l2) (f t : Int) (A : Option Addr) (n c : Nat) (b : List UInt8) (hl : b.length = n) (hb : b.length ≤ 140737488355328) (hr : RB w A b) (hnil : A = none → c = 0) (hs0 : 0 ≤ s1) (hs1 : s1 ≤ 1000000000) :
    Calls Try.prog 28 #[.pointer (some ⟨p, 0, none⟩), .int .i64 f, .int .i64 t, .slice A n c] w fun e w' => e = .returned (.int .i64 (sendTo nodes s1 l1 f t b).1) ∧ NZ w0 w' K p q nodes (sendTo nodes s1 l1 f t b).2.1 (sendTo nodes s1 l1 f t b).2.2 s2 l2 ∧ Upd (fun k => ¬ K k) w w' := by
  have hh := h
  obtain ⟨v, u, hp, hK⟩ := h
  unfold sendTo
  by_cases h1 : f < 0 ∨ nodes ≤ f ∨ t < 0 ∨ nodes ≤ t
  · rw [if_pos h1]
    refine (send_arg hp.nt f t A n c h1).mono ?_
    rintro e w' ⟨rfl, rfl⟩
    exact ⟨rfl, hh, Upd.refl _ _⟩
  · rw [if_neg h1]
    by_cases h2 : 512 ≤ l1.length
    · rw [if_pos h2]
      refine (send_full hp.nt f t A n c (by omega) (by omega) (by omega) (by omega) h2).mono ?_
      rintro e w' ⟨rfl, rfl⟩
      exact ⟨rfl, hh, Upd.refl _ _⟩
    · rw [if_neg h2]
      refine (hp.send f t A n c b hl hb hr hnil (by omega) (by omega) (by omega) (by omega) (by omega) hs0 hs1).mono ?_
      rintro e w' ⟨v', rfl, hn, hm⟩
      exact ⟨rfl, of_n hn hm hK⟩
theorem rsend (h : NZ w0 w K p q nodes s1 l1 s2 l2) (f t : Int) (s : ByteArray) (hs0 : 0 ≤ s2) (hs1 : s2 ≤ 1000000000) :
    Calls Try.prog 35 #[.pointer (some ⟨q, 0, none⟩), .int .i64 f, .int .i64 t, .string s] w fun e w' => e = .returned (.int .i64 (sendTo nodes s2 l2 f t s.data.toList).1) ∧ NZ w0 w' K p q nodes s1 l1 (sendTo nodes s2 l2 f t s.data.toList).2.1 (sendTo nodes s2 l2 f t s.data.toList).2.2 ∧ Upd (fun k => ¬ K k) w w' := by
  have hh := h
  obtain ⟨v, u, hp, hK⟩ := h
  unfold sendTo
  by_cases h1 : f < 0 ∨ nodes ≤ f ∨ t < 0 ∨ nodes ≤ t
  · rw [if_pos h1]
    refine (refSend_arg w _ q u nodes s2 l2 hp.r f t s h1).mono ?_
    rintro e w' ⟨rfl, rfl⟩
    exact ⟨rfl, hh, Upd.refl _ _⟩
  · rw [if_neg h1]
    by_cases h2 : 512 ≤ l2.length
    · rw [if_pos h2]
      refine (refSend_full w _ q u nodes s2 l2 hp.r f t s (by omega) (by omega) (by omega) (by omega) h2).mono ?_
      rintro e w' ⟨rfl, rfl⟩
      exact ⟨rfl, hh, Upd.refl _ _⟩
    · rw [if_neg h2]
      refine (hp.rsend f t s (by omega) (by omega) (by omega) (by omega) (by omega) hs0 hs1).mono ?_
      rintro e w' ⟨v', rfl, hn, hm⟩
      exact ⟨rfl, of_r hn hm hK⟩
theorem twice (h : NZ w0 w K p q nodes s1 l1 s2 l2) (k : Int) (hk0 : -9223372036854775808 ≤ k) (hk1 : k ≤ 9223372036854775807) :
    Calls Try.prog 29 #[.pointer (some ⟨p, 0, none⟩), .int .i64 k] w fun e w' => e = .returned (.bool (twiceOf k l1).1) ∧ NZ w0 w' K p q nodes s1 (twiceOf k l1).2 s2 l2 ∧ Upd (fun k => ¬ K k) w w' := by
  have hh := h
  obtain ⟨v, u, hp, hK⟩ := h
  unfold twiceOf
  cases hz : l1[placeOf k l1.length]? with
  | none =>
    refine (twice_no hp.nt k (.inl (by rw [place_none hz]; rfl)) hk0 hk1).mono ?_
    rintro e w' ⟨rfl, rfl⟩
    exact ⟨rfl, hh, Upd.refl _ _⟩
  | some z =>
    simp only
    by_cases h2 : 512 ≤ l1.length
    · rw [if_pos h2]
      refine (twice_no hp.nt k (.inr h2) hk0 hk1).mono ?_
      rintro e w' ⟨rfl, rfl⟩
      exact ⟨rfl, hh, Upd.refl _ _⟩
    · rw [if_neg h2]
      refine (hp.twice k z hz (by omega) hk0 hk1).mono ?_
      rintro e w' ⟨v', rfl, hn, hm⟩
      exact ⟨rfl, of_n hn hm hK⟩
theorem rtwice (h : NZ w0 w K p q nodes s1 l1 s2 l2) (k : Int) (hk0 : -9223372036854775808 ≤ k) (hk1 : k ≤ 9223372036854775807) :
    Calls Try.prog 39 #[.pointer (some ⟨q, 0, none⟩), .int .i64 k] w fun e w' => e = .returned (.bool (twiceOf k l2).1) ∧ NZ w0 w' K p q nodes s1 l1 s2 (twiceOf k l2).2 ∧ Upd (fun k => ¬ K k) w w' := by
  have hh := h
  obtain ⟨v, u, hp, hK⟩ := h
  unfold twiceOf
  cases hz : l2[placeOf k l2.length]? with
  | none =>
    refine (hp.rtwice_no k (.inl (by rw [place_none hz]; rfl)) hk0 hk1).mono ?_
    rintro e w' ⟨rfl, rfl⟩
    exact ⟨rfl, hh, Upd.refl _ _⟩
  | some z =>
    simp only
    by_cases h2 : 512 ≤ l2.length
    · rw [if_pos h2]
      refine (hp.rtwice_no k (.inr h2) hk0 hk1).mono ?_
      rintro e w' ⟨rfl, rfl⟩
      exact ⟨rfl, hh, Upd.refl _ _⟩
    · rw [if_neg h2]
      refine (hp.rtwice k z hz (by omega) hk0 hk1).mono ?_
      rintro e w' ⟨v', rfl, hn, hm⟩
      exact ⟨rfl, of_r hn hm hK⟩
theorem drop (h : NZ w0 w K p q nodes s1 l1 s2 l2) (k : Int) (hk0 : -9223372036854775808 ≤ k) (hk1 : k ≤ 9223372036854775807) :
    Calls Try.prog 34 #[.pointer (some ⟨p, 0, none⟩), .int .i64 k] w fun e w' => e = .returned (.bool (takeOf k l1).2) ∧ NZ w0 w' K p q nodes s1 (l1.eraseIdx (placeOf k l1.length)) s2 l2 ∧ Upd (fun k => ¬ K k) w w' := by
  have hh := h
  obtain ⟨v, u, hp, hK⟩ := h
  unfold takeOf
  cases hz : l1[placeOf k l1.length]? with
  | none =>
    have hl := place_none hz
    subst hl
    refine (drop_none hp.nt k).mono ?_
    rintro e w' ⟨rfl, hb⟩
    exact ⟨rfl, hh.below hb, Upd.of_below hb⟩
  | some z =>
    refine (hp.drop k (place_pos hz) hk0 hk1).mono ?_
    rintro e w' ⟨v', rfl, hn, hm⟩
    exact ⟨rfl, of_n hn hm hK⟩
theorem rdrop (h : NZ w0 w K p q nodes s1 l1 s2 l2) (k : Int) (hk0 : -9223372036854775808 ≤ k) (hk1 : k ≤ 9223372036854775807) :
    Calls Try.prog 38 #[.pointer (some ⟨q, 0, none⟩), .int .i64 k] w fun e w' => e = .returned (.bool (takeOf k l2).2) ∧ NZ w0 w' K p q nodes s1 l1 s2 (l2.eraseIdx (placeOf k l2.length)) ∧ Upd (fun k => ¬ K k) w w' := by
  have hh := h
  obtain ⟨v, u, hp, hK⟩ := h
  unfold takeOf
  cases hz : l2[placeOf k l2.length]? with
  | none =>
    have hl := place_none hz
    subst hl
    refine (refDrop_none k w _ q u nodes s2 hp.r).mono ?_
    rintro e w' ⟨rfl, hb⟩
    exact ⟨rfl, hh.below hb, Upd.of_below hb⟩
  | some z =>
    refine (hp.rdrop k (place_pos hz) hk0 hk1).mono ?_
    rintro e w' ⟨v', rfl, hn, hm⟩
    exact ⟨rfl, of_r hn hm hK⟩
theorem rtake (h : NZ w0 w K p q nodes s1 l1 s2 l2) (k : Int) (hk0 : -9223372036854775808 ≤ k) (hk1 : k ≤ 9223372036854775807) :
    Calls Try.prog 36 #[.pointer (some ⟨q, 0, none⟩), .int .i64 k] w fun e w' => e = .returned (.tuple #[.agg #[.int .i64 (takeOf k l2).1.1, .int .i64 (takeOf k l2).1.2.1, .string ⟨(takeOf k l2).1.2.2.toArray⟩], .bool (takeOf k l2).2]) ∧
      NZ w0 w' K p q nodes s1 l1 s2 (l2.eraseIdx (placeOf k l2.length)) ∧ Upd (fun k => ¬ K k) w w' := by
  have hh := h
  obtain ⟨v, u, hp, hK⟩ := h
  unfold takeOf
  cases hz : l2[placeOf k l2.length]? with
  | none =>
    have hl := place_none hz
    subst hl
    refine (refTake_none k w _ q u nodes s2 hp.r).mono ?_
    rintro e w' ⟨rfl, hb⟩
    exact ⟨rfl, hh.below hb, Upd.of_below hb⟩
  | some z =>
    obtain ⟨f, t, b⟩ := z
    refine (hp.rtake k f t b hz hk0 hk1).mono ?_
    rintro e w' ⟨v', rfl, hn, hm⟩
    exact ⟨rfl, of_r hn hm hK⟩
theorem take (h : NZ w0 w K p q nodes s1 l1 s2 l2) (k : Int) (hk0 : -9223372036854775808 ≤ k) (hk1 : k ≤ 9223372036854775807) :
    Calls Try.prog 31 #[.pointer (some ⟨p, 0, none⟩), .int .i64 k] w fun e w' => ∃ A c, e = .returned (.tuple #[.agg #[.int .i64 (takeOf k l1).1.1, .int .i64 (takeOf k l1).1.2.1, .slice A (takeOf k l1).1.2.2.length c], .bool (takeOf k l1).2]) ∧
      NZ w0 w' (fun k2 => K k2 ∨ (0 < (takeOf k l1).1.2.2.length ∧ ∃ ad, A = some ad ∧ ad.block = k2)) p q nodes s1 (l1.eraseIdx (placeOf k l1.length)) s2 l2 ∧ Upd (fun k => ¬ K k) w w' ∧ RB w' A (takeOf k l1).1.2.2 := by
  have hh := h
  obtain ⟨v, u, hp, hK⟩ := h
  unfold takeOf
  cases hz : l1[placeOf k l1.length]? with
  | none =>
    have hl := place_none hz
    subst hl
    refine (take_none hp.nt k).mono ?_
    rintro e w' ⟨rfl, hb⟩
    exact ⟨none, 0, rfl, (hh.below hb).less (fun k2 hk2 => hk2.elim id (fun h => by simp at h)), Upd.of_below hb, RB.nil _ _⟩
  | some z =>
    obtain ⟨f, t, b⟩ := z
    refine (hp.take k f t b hz hk0 hk1).mono ?_
    rintro e w' ⟨A, c, v', rfl, hn, hm, hr, hnew, hv'⟩
    obtain ⟨⟨v2, u2, g1, g2⟩, g3⟩ := of_n (K := K) hn hm hK
    refine ⟨A, c, rfl, ?_, g3, hr⟩
    refine ⟨v', u, hn, fun k2 hk2 => ?_⟩
    rcases hk2 with hk2 | ⟨h0, ad, rfl, rfl⟩
    · exact ⟨Nat.lt_of_lt_of_le (hK k2 hk2).1 hm.upd.size, hm.off (hK k2 hk2).1 (hK k2 hk2).2.1, (hK k2 hk2).2.2⟩
    · have h1 := hnew ad rfl
      refine ⟨hr.cells.inOld (by rwa [bv_length]) ad rfl, ?_, fun hf => by have := hp.r.foot_lt _ hf; omega⟩
      rintro (e | e)
      · have := hp.nt.foot_lt p (.inl rfl); omega
      · have := hp.nt.foot_lt _ (.inr (hv' ▸ e)); omega
theorem sent (h : NZ w0 w K p q nodes s1 l1 s2 l2) :
    Calls Try.prog 33 #[.pointer (some ⟨p, 0, none⟩)] w fun e w' => e = .returned (.int .i64 s1) ∧ w = w' := by
  obtain ⟨v, u, hp, hK⟩ := h
  exact sent_plain hp.nt
theorem pending (h : NZ w0 w K p q nodes s1 l1 s2 l2) :
    Calls Try.prog 30 #[.pointer (some ⟨p, 0, none⟩)] w fun e w' => ∃ x M, e = .returned x ∧ M.map Ms.plain = l1 ∧ w'.ownsRow w.heap.size 47 3 x l1.length (mcells M) ∧
      (∀ m ∈ M, FreshMs w' w.heap.size m ∧ ∀ ad, m.A = some ad → x.ownBlock ≠ some ad.block) ∧ Below w.heap.size w w' := by
  obtain ⟨v, u, hp, hK⟩ := h
  exact pending_plain hp.nt
theorem ref2 (h : NZ w0 w K p q nodes s1 l1 s2 l2) : w.cell? ⟨q, 2, none⟩ = some (.int .i64 s2) := by
  obtain ⟨v, u, hp, hK⟩ := h
  exact hp.r.c2
theorem ref1 (h : NZ w0 w K p q nodes s1 l1 s2 l2) : ∃ A c, w.cell? ⟨q, 1, none⟩ = some (.slice A l2.length c) ∧ RC w A (rcells l2) := by
  obtain ⟨v, u, hp, hK⟩ := h
  obtain ⟨A, c, rfl, _⟩ := own_slice hp.r.own
  exact ⟨A, c, hp.r.c1, own_RC hp.r.own⟩
end NZ
theorem sendTo_le (nodes s : Int) (l : List Pl) (f t : Int) (b : List UInt8) : s ≤ (sendTo nodes s l f t b).2.1 ∧ (sendTo nodes s l f t b).2.1 ≤ s + 1 := by
  unfold sendTo
  split
  · exact ⟨by simp, by simp; omega⟩
  · split
    · exact ⟨by simp, by simp; omega⟩
    · exact ⟨by simp; omega, by simp⟩
end Go.Proofs.Ytkpkimhpecbkoaa
