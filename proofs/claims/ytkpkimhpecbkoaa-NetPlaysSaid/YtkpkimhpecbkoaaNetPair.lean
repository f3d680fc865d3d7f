/-
  The program's net and the reference's, apart from each other, and the calls of either.
-/
import Derived.Test.YtkpkimhpecbkoaaRefNet3
set_option linter.unusedVariables false
set_option linter.unusedSimpArgs false
namespace Go.Proofs.Ytkpkimhpecbkoaa
open Go.RowKit

/-- The program's net at p, the reference's at q. -/
structure NPair (w0 w : World) (p q : Nat) (v u : Value) (nodes s1 : Int) (l1 : List Pl) (s2 : Int) (l2 : List Pl) : Prop where
  n : ∃ L, NetAt w w0.heap.size p v nodes s1 L ∧ L.map Ms.plain = l1 ∧ ∀ m ∈ L, m.off (nfoot q u)
  r : RNet w w0.heap.size q u nodes s2 l2
  ap : ∀ k, nfoot p v k → ¬ nfoot q u k
  bel : Below w0.heap.size w0 w
/-- What was turned, and where the row lies. -/
structure Moved (w : World) (p : Nat) (v v' : Value) (w' : World) : Prop where
  upd : Upd (nfoot p v) w w'
  blk : ∀ k, v'.ownBlock = some k → v.ownBlock = some k ∨ w.heap.size ≤ k
namespace NPair
variable {w0 w w' : World} {p q : Nat} {v u v' u' : Value} {nodes s1 s2 s1' s2' : Int} {l1 l2 l1' l2' : List Pl}
theorem nt (h : NPair w0 w p q v u nodes s1 l1 s2 l2) : Nt w w0.heap.size p v nodes s1 l1 := by
  obtain ⟨L, h1, h2, _⟩ := h.n
  exact ⟨L, h1, h2⟩
theorem below (h : NPair w0 w p q v u nodes s1 l1 s2 l2) (hb : Below w.heap.size w w') : NPair w0 w' p q v u nodes s1 l1 s2 l2 := by
  obtain ⟨L, h1, h2, h3⟩ := h.n
  exact ⟨⟨L, h1.below hb, h2, h3⟩, h.r.below hb, h.ap, below_below h.bel h.bel.size hb⟩
theorem drew (h : NPair w0 w p q v u nodes s1 l1 s2 l2) : NPair w0 w.drew p q v u nodes s1 l1 s2 l2 := h.below ((Below.refl _ _).drew)
theorem alloc (h : NPair w0 w p q v u nodes s1 l1 s2 l2) (o : Obj) : NPair w0 (w.alloc o) p q v u nodes s1 l1 s2 l2 := h.below ((Below.refl _ _).alloc (Nat.le_refl _) o)
/-- What a call of the program's net leaves. -/
theorem moved {L L' : List Ms} (h : NPair w0 w p q v u nodes s1 l1 s2 l2) (hL : ∀ m ∈ L, m.off (nfoot q u)) (hn : NetAt w' w0.heap.size p v' nodes s1' L') (hl : L'.map Ms.plain = l1') (hu : Upd (nfoot p v) w w') (hk : ∀ k, v'.ownBlock = some k → v.ownBlock = some k ∨ w.heap.size ≤ k)
    (hm : ∀ m ∈ L', m ∈ L ∨ ∀ ad, m.A = some ad → w.heap.size ≤ ad.block) : NPair w0 w' p q v' u nodes s1' l1' s2 l2 := by
  refine ⟨⟨L', hn, hl, fun m hm' => ?_⟩, h.r.upd hu (fun k hk hp => h.ap k hp hk), ?_, h.nt.goes h.bel hu⟩
  · rcases hm m hm' with h1 | h1
    · exact hL m h1
    · intro h0 ad e hf
      have := h1 ad e
      have := h.r.foot_lt _ hf
      omega
  · rintro k (rfl | e) hf
    · exact h.ap k (.inl rfl) hf
    · rcases hk k e with e | e
      · exact h.ap k (.inr e) hf
      · have := h.r.foot_lt _ hf
        omega
/-- What a call of the reference's net leaves. -/
theorem refd (h : NPair w0 w p q v u nodes s1 l1 s2 l2) (ht : RTurned w w0.heap.size q u nodes s2' l2' u' w') : NPair w0 w' p q v u' nodes s1 l1 s2' l2' := by
  obtain ⟨L, h1, h2, h3⟩ := h.n
  refine ⟨⟨L, h1.upd ht.upd h.ap h3, h2, fun m hm h0 ad e hf => ?_⟩, ht.net, fun k hk hf => ?_, below_upd h.bel (h.bel.size) ht.upd h.r.foot_base⟩
  · rcases hf with hf | hf
    · exact h3 m hm h0 ad e (.inl hf)
    · rcases ht.blk _ hf with hf | hf
      · exact h3 m hm h0 ad e (.inr hf)
      · have := (h1.body m hm).1.lt h0 ad e
        omega
  · rcases hf with hf | hf
    · exact h.ap k hk (.inl hf)
    · rcases ht.blk _ hf with hf | hf
      · exact h.ap k hk (.inr hf)
      · have := h1.foot_lt k hk
        omega
theorem len1 (h : NPair w0 w p q v u nodes s1 l1 s2 l2) : l1.length ≤ 512 := h.nt.len_small

theorem send (h : NPair w0 w p q v u nodes s1 l1 s2 l2) (f t : Int) (A : Option Addr) (n c : Nat) (b : List UInt8) (hl : b.length = n) (hb : b.length ≤ 140737488355328) (hr : RB w A b) (hnil : A = none → c = 0)
    (h1 : 0 ≤ f) (h2 : f < nodes) (h3 : 0 ≤ t) (h4 : t < nodes) (hf : l1.length < 512) (hs0 : 0 ≤ s1) (hs1 : s1 ≤ 1000000000) :
    Calls Try.prog 28 #[.pointer (some ⟨p, 0, none⟩), .int .i64 f, .int .i64 t, .slice A n c] w fun e w' => ∃ v', e = .returned (.int .i64 0) ∧ NPair w0 w' p q v' u nodes (s1 + 1) (l1 ++ [(f, t, b)]) s2 l2 ∧ Moved w p v v' w' := by
  obtain ⟨L, g1, rfl, g3⟩ := h.n
  refine (netSend_any w _ p v nodes s1 L g1 f t A n c b hl hb hr hnil h1 h2 h3 h4 (by simpa using hf) hs0 hs1).mono ?_
  rintro e w' ⟨v', L', rfl, hn, hl', hu, hk, hm⟩
  exact ⟨v', rfl, h.moved g3 hn hl' hu hk hm, ⟨hu, hk⟩⟩
theorem twice (h : NPair w0 w p q v u nodes s1 l1 s2 l2) (k : Int) (z : Pl) (hq : l1[placeOf k l1.length]? = some z) (hf : l1.length < 512) (hk0 : -9223372036854775808 ≤ k) (hk1 : k ≤ 9223372036854775807) :
    Calls Try.prog 29 #[.pointer (some ⟨p, 0, none⟩), .int .i64 k] w fun e w' => ∃ v', e = .returned (.bool true) ∧ NPair w0 w' p q v' u nodes s1 (l1 ++ [z]) s2 l2 ∧ Moved w p v v' w' := by
  obtain ⟨L, g1, rfl, g3⟩ := h.n
  rw [List.length_map] at hq hf
  have h0 : 0 < L.length := by
    cases L with
    | nil => simp at hq
    | cons m L => simp
  refine (netTwice_any k w _ p v nodes s1 L g1 h0 hf hk0 hk1).mono ?_
  rintro e w' ⟨v', L', rfl, hn, hl', hu, hk, hm⟩
  rw [List.getElem?_map, List.getElem?_eq_getElem (placeOf_lt k h0)] at hq
  simp only [Option.map_some, Option.some.injEq] at hq
  rw [hq] at hl'
  exact ⟨v', rfl, h.moved g3 hn hl' hu hk hm, ⟨hu, hk⟩⟩
theorem take (h : NPair w0 w p q v u nodes s1 l1 s2 l2) (k : Int) (f t : Int) (b : List UInt8) (hq : l1[placeOf k l1.length]? = some (f, t, b)) (hk0 : -9223372036854775808 ≤ k) (hk1 : k ≤ 9223372036854775807) :
    Calls Try.prog 31 #[.pointer (some ⟨p, 0, none⟩), .int .i64 k] w fun e w' => ∃ A c v', e = .returned (.tuple #[.agg #[.int .i64 f, .int .i64 t, .slice A b.length c], .bool true]) ∧ NPair w0 w' p q v' u nodes s1 (l1.eraseIdx (placeOf k l1.length)) s2 l2 ∧ Moved w p v v' w' ∧
      RB w' A b ∧ (∀ ad, A = some ad → w.heap.size ≤ ad.block) ∧ v'.ownBlock = v.ownBlock := by
  obtain ⟨L, g1, rfl, g3⟩ := h.n
  rw [List.length_map] at hq ⊢
  have h0 : 0 < L.length := by
    cases L with
    | nil => simp at hq
    | cons m L => simp
  refine (netTake_any k w _ p v nodes s1 L g1 h0 hk0 hk1).mono ?_
  rintro e w' ⟨f', t', A, c, b', rfl, ht⟩
  obtain ⟨hi, m1, m2, m3⟩ := ht.msg
  have hx : (f', t', b') = (f, t, b) := by
    rw [List.getElem?_map, List.getElem?_eq_getElem hi] at hq
    simp only [Option.map_some, Option.some.injEq, Ms.plain] at hq
    rw [m1, m2, m3, hq]
  simp only [Prod.mk.injEq] at hx
  obtain ⟨rfl, rfl, rfl⟩ := hx
  obtain ⟨v', hv', hn⟩ := ht.net
  exact ⟨A, c, v', rfl, h.moved g3 hn (map_eraseIdx' _ _) ht.upd (fun k hk => .inl (hv' ▸ hk)) (fun m hm => .inl (List.mem_of_mem_eraseIdx hm)), ⟨ht.upd, fun k hk => .inl (hv' ▸ hk)⟩, ht.body.r, ht.new, hv'⟩
theorem drop (h : NPair w0 w p q v u nodes s1 l1 s2 l2) (k : Int) (h0 : 0 < l1.length) (hk0 : -9223372036854775808 ≤ k) (hk1 : k ≤ 9223372036854775807) :
    Calls Try.prog 34 #[.pointer (some ⟨p, 0, none⟩), .int .i64 k] w fun e w' => ∃ v', e = .returned (.bool true) ∧ NPair w0 w' p q v' u nodes s1 (l1.eraseIdx (placeOf k l1.length)) s2 l2 ∧ Moved w p v v' w' := by
  obtain ⟨L, g1, rfl, g3⟩ := h.n
  rw [List.length_map] at h0 ⊢
  refine (netDrop_any k w _ p v nodes s1 L g1 h0 hk0 hk1).mono ?_
  rintro e w' ⟨rfl, ⟨v', hv', hn⟩, hu⟩
  exact ⟨v', rfl, h.moved g3 hn (map_eraseIdx' _ _) hu (fun k hk => .inl (hv' ▸ hk)) (fun m hm => .inl (List.mem_of_mem_eraseIdx hm)), ⟨hu, fun k hk => .inl (hv' ▸ hk)⟩⟩

theorem rsend (h : NPair w0 w p q v u nodes s1 l1 s2 l2) (f t : Int) (s : ByteArray) (h1 : 0 ≤ f) (h2 : f < nodes) (h3 : 0 ≤ t) (h4 : t < nodes) (hf : l2.length < 512) (hs0 : 0 ≤ s2) (hs1 : s2 ≤ 1000000000) :
    Calls Try.prog 35 #[.pointer (some ⟨q, 0, none⟩), .int .i64 f, .int .i64 t, .string s] w fun e w' => ∃ u', e = .returned (.int .i64 0) ∧ NPair w0 w' p q v u' nodes s1 l1 (s2 + 1) (l2 ++ [(f, t, s.data.toList)]) ∧ Moved w q u u' w' := by
  refine (refSend_any w _ q u nodes s2 l2 h.r f t s h1 h2 h3 h4 hf hs0 hs1).mono ?_
  rintro e w' ⟨u', rfl, ht⟩
  exact ⟨u', rfl, h.refd ht, ⟨ht.upd, ht.blk⟩⟩
theorem rtwice (h : NPair w0 w p q v u nodes s1 l1 s2 l2) (k : Int) (z : Pl) (hq : l2[placeOf k l2.length]? = some z) (hf : l2.length < 512) (hk0 : -9223372036854775808 ≤ k) (hk1 : k ≤ 9223372036854775807) :
    Calls Try.prog 39 #[.pointer (some ⟨q, 0, none⟩), .int .i64 k] w fun e w' => ∃ u', e = .returned (.bool true) ∧ NPair w0 w' p q v u' nodes s1 l1 s2 (l2 ++ [z]) ∧ Moved w q u u' w' := by
  have h0 : 0 < l2.length := by
    cases l2 with
    | nil => simp at hq
    | cons m L => simp
  refine (refTwice_any k w _ q u nodes s2 l2 h.r h0 hf hk0 hk1).mono ?_
  rintro e w' ⟨u', rfl, ht⟩
  rw [List.getElem?_eq_getElem (placeOf_lt k h0)] at hq
  rw [Option.some.inj hq] at ht
  exact ⟨u', rfl, h.refd ht, ⟨ht.upd, ht.blk⟩⟩
theorem rtwice_no (h : NPair w0 w p q v u nodes s1 l1 s2 l2) (k : Int) (h0 : l2.length = 0 ∨ 512 ≤ l2.length) (hk0 : -9223372036854775808 ≤ k) (hk1 : k ≤ 9223372036854775807) :
    Calls Try.prog 39 #[.pointer (some ⟨q, 0, none⟩), .int .i64 k] w fun e w' => e = .returned (.bool false) ∧ w = w' := by
  rcases h0 with h0 | h0
  · obtain rfl := List.eq_nil_of_length_eq_zero h0
    exact refTwice_none k w _ q u nodes s2 h.r
  · exact refTwice_full k w _ q u nodes s2 l2 h.r h0 hk0 hk1
theorem rtake (h : NPair w0 w p q v u nodes s1 l1 s2 l2) (k : Int) (f t : Int) (b : List UInt8) (hq : l2[placeOf k l2.length]? = some (f, t, b)) (hk0 : -9223372036854775808 ≤ k) (hk1 : k ≤ 9223372036854775807) :
    Calls Try.prog 36 #[.pointer (some ⟨q, 0, none⟩), .int .i64 k] w fun e w' => ∃ u', e = .returned (.tuple #[.agg #[.int .i64 f, .int .i64 t, .string ⟨b.toArray⟩], .bool true]) ∧ NPair w0 w' p q v u' nodes s1 l1 s2 (l2.eraseIdx (placeOf k l2.length)) ∧ Moved w q u u' w' := by
  have h0 : 0 < l2.length := by
    cases l2 with
    | nil => simp at hq
    | cons m L => simp
  refine (refTake_any k w _ q u nodes s2 l2 h.r h0 hk0 hk1).mono ?_
  rintro e w' ⟨u', f', t', b', hm, rfl, ht⟩
  rw [hq] at hm
  simp only [Option.some.injEq, Prod.mk.injEq] at hm
  obtain ⟨rfl, rfl, rfl⟩ := hm
  exact ⟨u', rfl, h.refd ht, ⟨ht.upd, ht.blk⟩⟩
theorem rdrop (h : NPair w0 w p q v u nodes s1 l1 s2 l2) (k : Int) (h0 : 0 < l2.length) (hk0 : -9223372036854775808 ≤ k) (hk1 : k ≤ 9223372036854775807) :
    Calls Try.prog 38 #[.pointer (some ⟨q, 0, none⟩), .int .i64 k] w fun e w' => ∃ u', e = .returned (.bool true) ∧ NPair w0 w' p q v u' nodes s1 l1 s2 (l2.eraseIdx (placeOf k l2.length)) ∧ Moved w q u u' w' := by
  refine (refDrop_any k w _ q u nodes s2 l2 h.r h0 hk0 hk1).mono ?_
  rintro e w' ⟨u', rfl, ht⟩
  exact ⟨u', rfl, h.refd ht, ⟨ht.upd, ht.blk⟩⟩
end NPair
end Go.Proofs.Ytkpkimhpecbkoaa
