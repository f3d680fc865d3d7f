/-
  The contracts of package net over the list of what is under way.
-/
import Derived.Test.YtkpkimhpecbkoaaNetMore
set_option linter.unusedVariables false
set_option linter.unusedSimpArgs false
namespace Go.Proofs.Ytkpkimhpecbkoaa
open Go.RowKit

theorem RC.parts {w : World} {A : Option Addr} {l : List Value} (h : RC w A l) (h0 : 0 < l.length) :
    ∃ b o, A = some ⟨b, o, none⟩ ∧ ∀ j u, l[j]? = some u → w.cell? ⟨b, o + j, none⟩ = some u := by
  obtain ⟨⟨b, o, sp⟩, e, hc⟩ := h h0
  have hsp : sp = none := by
    have := hc 0 _ (List.getElem?_eq_getElem h0)
    simp only [Addr.add, if_true] at this
    unfold World.cell? at this
    cases sp with
    | none => rfl
    | some s => simp at this; split at this <;> simp at this
  subst hsp
  refine ⟨b, o, e, fun j u hj => ?_⟩
  have := hc j u hj
  rwa [add_off] at this
abbrev Pl := Int × Int × List UInt8
theorem map_eraseIdx' (L : List Ms) (i : Nat) : (L.eraseIdx i).map Ms.plain = (L.map Ms.plain).eraseIdx i := by
  induction L generalizing i with
  | nil => rfl
  | cons m L ih =>
    cases i with
    | zero => rfl
    | succ i => simp [ih]
/-- A net at block p, by the list of what is under way. -/
def Nt (w : World) (B p : Nat) (v : Value) (nodes sent : Int) (l : List Pl) : Prop := ∃ L, NetAt w B p v nodes sent L ∧ L.map Ms.plain = l
namespace Nt
variable {w w' w0 : World} {B p : Nat} {v : Value} {nodes sent : Int} {l : List Pl}
theorem len_small (h : Nt w B p v nodes sent l) : l.length ≤ 512 := by
  obtain ⟨L, h, rfl⟩ := h
  simpa using h.small
theorem below (h : Nt w B p v nodes sent l) (hb : Below w.heap.size w w') : Nt w' B p v nodes sent l := by
  obtain ⟨L, h, e⟩ := h
  exact ⟨L, h.below hb, e⟩
theorem drew (h : Nt w B p v nodes sent l) : Nt w.drew B p v nodes sent l := h.below ((Below.refl _ _).drew)
theorem goes (h : Nt w B p v nodes sent l) (hb : Below B w0 w) (u : Upd (nfoot p v) w w') : Below B w0 w' := by
  obtain ⟨L, h, e⟩ := h
  exact h.goes hb u
theorem foot_lt (h : Nt w B p v nodes sent l) : ∀ k, nfoot p v k → k < w.heap.size := by
  obtain ⟨L, h, e⟩ := h
  exact h.foot_lt
theorem foot_base (h : Nt w B p v nodes sent l) : ∀ k, nfoot p v k → B ≤ k := by
  obtain ⟨L, h, e⟩ := h
  exact h.foot_base
/-- What is turned in new memory alone leaves the net. -/
theorem upd_new {F : Nat → Prop} {q : Nat} (h : Nt w0 B p v nodes sent l) (hb : Below w0.heap.size w0 w) (u : Upd F w w') (hq : w0.heap.size ≤ q) (hF : ∀ k, F k → q ≤ k) : Nt w' B p v nodes sent l := by
  obtain ⟨L, h, e⟩ := h
  refine ⟨L, (h.below hb).upd u (fun k hk hf => by have := h.foot_lt k hk; have := hF k hf; omega) (fun m hm h0 ad e hf => ?_), e⟩
  have := (h.body m hm).1.lt h0 ad e
  have := hF _ hf
  omega
end Nt
/-- What a call that turns the net leaves. -/
structure Turned (w : World) (B p : Nat) (v : Value) (nodes sent : Int) (l : List Pl) (v' : Value) (w' : World) : Prop where
  net : Nt w' B p v' nodes sent l
  upd : Upd (nfoot p v) w w'
  blk : ∀ k, v'.ownBlock = some k → v.ownBlock = some k ∨ w.heap.size ≤ k
/-- The message that came with it. -/
structure Got (w : World) (f t : Int) (A : Option Addr) (c : Nat) (b : List UInt8) (w' : World) : Prop where
  body : BodyAt w' ⟨f, t, A, c, b⟩
  own : w'.ownsRow w.heap.size 5 1 (.slice A b.length c) b.length (bv b)
  new : ∀ ad, A = some ad → w.heap.size ≤ ad.block

theorem send_plain {w : World} {B p : Nat} {v : Value} {nodes sent : Int} {l : List Pl} (h : Nt w B p v nodes sent l) (f t : Int) (A : Option Addr) (n c : Nat) (b : List UInt8) (hl : b.length = n) (hb : b.length ≤ 140737488355328) (hr : RB w A b) (hnil : A = none → c = 0)
    (h1 : 0 ≤ f) (h2 : f < nodes) (h3 : 0 ≤ t) (h4 : t < nodes) (hf : l.length < 512) (hs0 : 0 ≤ sent) (hs1 : sent ≤ 1000000000) :
    Calls Try.prog 28 #[.pointer (some ⟨p, 0, none⟩), .int .i64 f, .int .i64 t, .slice A n c] w fun e w' => ∃ v', e = .returned (.int .i64 0) ∧ Turned w B p v nodes (sent + 1) (l ++ [(f, t, b)]) v' w' := by
  obtain ⟨L, h, rfl⟩ := h
  refine (netSend_any w B p v nodes sent L h f t A n c b hl hb hr hnil h1 h2 h3 h4 (by simpa using hf) hs0 hs1).mono ?_
  rintro e w' ⟨v', L', rfl, hn, hl', hu, hk, _⟩
  exact ⟨v', rfl, ⟨L', hn, hl'⟩, hu, hk⟩
/-- A net none of whose bodies lies in block g. -/
def NtOff (w : World) (B p : Nat) (v : Value) (nodes sent : Int) (l : List Pl) (g : Nat) : Prop := ∃ L, NetAt w B p v nodes sent L ∧ L.map Ms.plain = l ∧ (∀ m ∈ L, ∀ ad, m.A = some ad → ad.block ≠ g) ∧ ¬ nfoot p v g
theorem NtOff.nt {w : World} {B p g : Nat} {v : Value} {nodes sent : Int} {l : List Pl} (h : NtOff w B p v nodes sent l g) : Nt w B p v nodes sent l := by
  obtain ⟨L, h1, h2, _⟩ := h
  exact ⟨L, h1, h2⟩
theorem NtOff.upd {w w' : World} {B p g : Nat} {v : Value} {nodes sent : Int} {l : List Pl} (h : NtOff w B p v nodes sent l g) (u : Upd (fun k => k = g) w w') : NtOff w' B p v nodes sent l g := by
  obtain ⟨L, h1, h2, h3, h4⟩ := h
  exact ⟨L, h1.upd u (fun k hk e => h4 (e ▸ hk)) (fun m hm h0 ad e hk => h3 m hm ad e hk), h2, h3, h4⟩
theorem send_off {w : World} {B p g : Nat} {v : Value} {nodes sent : Int} {l : List Pl} (h : NtOff w B p v nodes sent l g) (hg : g < w.heap.size) (f t : Int) (A : Option Addr) (n c : Nat) (b : List UInt8) (hl : b.length = n) (hb : b.length ≤ 140737488355328) (hr : RB w A b) (hnil : A = none → c = 0)
    (h1 : 0 ≤ f) (h2 : f < nodes) (h3 : 0 ≤ t) (h4 : t < nodes) (hf : l.length < 512) (hs0 : 0 ≤ sent) (hs1 : sent ≤ 1000000000) :
    Calls Try.prog 28 #[.pointer (some ⟨p, 0, none⟩), .int .i64 f, .int .i64 t, .slice A n c] w fun e w' => ∃ v', e = .returned (.int .i64 0) ∧ NtOff w' B p v' nodes (sent + 1) (l ++ [(f, t, b)]) g ∧ Upd (nfoot p v) w w' := by
  obtain ⟨L, h, rfl, k1, k2⟩ := h
  refine (netSend_any w B p v nodes sent L h f t A n c b hl hb hr hnil h1 h2 h3 h4 (by simpa using hf) hs0 hs1).mono ?_
  rintro e w' ⟨v', L', rfl, hn, hl', hu, hk, hm⟩
  refine ⟨v', rfl, ⟨L', hn, hl', fun m hm' ad e => ?_, ?_⟩, hu⟩
  · rcases hm m hm' with h | h
    · exact k1 m h ad e
    · have := h ad e
      omega
  · rintro (rfl | e)
    · exact k2 (.inl rfl)
    · rcases hk _ e with h | h
      · exact k2 (.inr h)
      · omega
theorem send_arg {w : World} {B p : Nat} {v : Value} {nodes sent : Int} {l : List Pl} (h : Nt w B p v nodes sent l) (f t : Int) (A : Option Addr) (n c : Nat) (hb : f < 0 ∨ nodes ≤ f ∨ t < 0 ∨ nodes ≤ t) :
    Calls Try.prog 28 #[.pointer (some ⟨p, 0, none⟩), .int .i64 f, .int .i64 t, .slice A n c] w fun e w' => e = .returned (.int .i64 1) ∧ w = w' := by
  obtain ⟨L, h, rfl⟩ := h
  exact netSend_arg w B p v nodes sent L h f t A n c hb
theorem send_full {w : World} {B p : Nat} {v : Value} {nodes sent : Int} {l : List Pl} (h : Nt w B p v nodes sent l) (f t : Int) (A : Option Addr) (n c : Nat) (h1 : 0 ≤ f) (h2 : f < nodes) (h3 : 0 ≤ t) (h4 : t < nodes) (hf : 512 ≤ l.length) :
    Calls Try.prog 28 #[.pointer (some ⟨p, 0, none⟩), .int .i64 f, .int .i64 t, .slice A n c] w fun e w' => e = .returned (.int .i64 13) ∧ w = w' := by
  obtain ⟨L, h, rfl⟩ := h
  exact netSend_full w B p v nodes sent L h f t A n c h1 h2 h3 h4 (by simpa using hf)
theorem sent_plain {w : World} {B p : Nat} {v : Value} {nodes sent : Int} {l : List Pl} (h : Nt w B p v nodes sent l) :
    Calls Try.prog 33 #[.pointer (some ⟨p, 0, none⟩)] w fun e w' => e = .returned (.int .i64 sent) ∧ w = w' := by
  obtain ⟨L, h, rfl⟩ := h
  exact netSent_any w B p v nodes sent L h
theorem take_none {w : World} {B p : Nat} {v : Value} {nodes sent : Int} (h : Nt w B p v nodes sent []) (k : Int) :
    Calls Try.prog 31 #[.pointer (some ⟨p, 0, none⟩), .int .i64 k] w fun e w' => e = .returned (.tuple #[.agg #[.int .i64 0, .int .i64 0, .slice none 0 0], .bool false]) ∧ Below w.heap.size w w' := by
  obtain ⟨L, h, e⟩ := h
  obtain rfl : L = [] := List.map_eq_nil_iff.1 e
  exact netTake_none k w B p v nodes sent h
theorem take_plain {w : World} {B p : Nat} {v : Value} {nodes sent : Int} {l : List Pl} (h : Nt w B p v nodes sent l) (k : Int) (f t : Int) (b : List UInt8) (hq : l[placeOf k l.length]? = some (f, t, b)) (hk0 : -9223372036854775808 ≤ k) (hk1 : k ≤ 9223372036854775807) :
    Calls Try.prog 31 #[.pointer (some ⟨p, 0, none⟩), .int .i64 k] w fun e w' => ∃ A c v', e = .returned (.tuple #[.agg #[.int .i64 f, .int .i64 t, .slice A b.length c], .bool true]) ∧ Turned w B p v nodes sent (l.eraseIdx (placeOf k l.length)) v' w' ∧ v'.ownBlock = v.ownBlock ∧ Got w f t A c b w' := by
  obtain ⟨L, h, rfl⟩ := h
  rw [List.length_map] at hq ⊢
  have h0 : 0 < L.length := by
    cases L with
    | nil => simp at hq
    | cons m L => simp
  refine (netTake_any k w B p v nodes sent L h h0 hk0 hk1).mono ?_
  rintro e w' ⟨f', t', A, c, b', rfl, ht⟩
  obtain ⟨hi, m1, m2, m3⟩ := ht.msg
  have hx : (f', t', b') = (f, t, b) := by
    rw [List.getElem?_map, List.getElem?_eq_getElem hi] at hq
    simp only [Option.map_some, Option.some.injEq, Ms.plain] at hq
    rw [m1, m2, m3, hq]
  simp only [Prod.mk.injEq] at hx
  obtain ⟨rfl, rfl, rfl⟩ := hx
  obtain ⟨v', hv', hn⟩ := ht.net
  exact ⟨A, c, v', rfl, ⟨⟨_, hn, map_eraseIdx' _ _⟩, ht.upd, fun k hk => .inl (hv' ▸ hk)⟩, hv', ht.body, ht.own, ht.new⟩
theorem drop_none {w : World} {B p : Nat} {v : Value} {nodes sent : Int} (h : Nt w B p v nodes sent []) (k : Int) :
    Calls Try.prog 34 #[.pointer (some ⟨p, 0, none⟩), .int .i64 k] w fun e w' => e = .returned (.bool false) ∧ Below w.heap.size w w' := by
  obtain ⟨L, h, e⟩ := h
  obtain rfl : L = [] := List.map_eq_nil_iff.1 e
  exact netDrop_none k w B p v nodes sent h
theorem drop_plain {w : World} {B p : Nat} {v : Value} {nodes sent : Int} {l : List Pl} (h : Nt w B p v nodes sent l) (k : Int) (h0 : 0 < l.length) (hk0 : -9223372036854775808 ≤ k) (hk1 : k ≤ 9223372036854775807) :
    Calls Try.prog 34 #[.pointer (some ⟨p, 0, none⟩), .int .i64 k] w fun e w' => ∃ v', e = .returned (.bool true) ∧ Turned w B p v nodes sent (l.eraseIdx (placeOf k l.length)) v' w' := by
  obtain ⟨L, h, rfl⟩ := h
  rw [List.length_map] at h0 ⊢
  refine (netDrop_any k w B p v nodes sent L h h0 hk0 hk1).mono ?_
  rintro e w' ⟨rfl, ⟨v', hv', hn⟩, hu⟩
  exact ⟨v', rfl, ⟨_, hn, map_eraseIdx' _ _⟩, hu, fun k hk => .inl (hv' ▸ hk)⟩
theorem twice_no {w : World} {B p : Nat} {v : Value} {nodes sent : Int} {l : List Pl} (h : Nt w B p v nodes sent l) (k : Int) (h0 : l.length = 0 ∨ 512 ≤ l.length) (hk0 : -9223372036854775808 ≤ k) (hk1 : k ≤ 9223372036854775807) :
    Calls Try.prog 29 #[.pointer (some ⟨p, 0, none⟩), .int .i64 k] w fun e w' => e = .returned (.bool false) ∧ w = w' := by
  obtain ⟨L, h, rfl⟩ := h
  rw [List.length_map] at h0
  rcases h0 with h0 | h0
  · obtain rfl : L = [] := List.eq_nil_of_length_eq_zero h0
    exact netTwice_none k w B p v nodes sent h
  · exact netTwice_full k w B p v nodes sent L h h0 hk0 hk1
theorem twice_plain {w : World} {B p : Nat} {v : Value} {nodes sent : Int} {l : List Pl} (h : Nt w B p v nodes sent l) (k : Int) (q : Pl) (hq : l[placeOf k l.length]? = some q) (hf : l.length < 512) (hk0 : -9223372036854775808 ≤ k) (hk1 : k ≤ 9223372036854775807) :
    Calls Try.prog 29 #[.pointer (some ⟨p, 0, none⟩), .int .i64 k] w fun e w' => ∃ v', e = .returned (.bool true) ∧ Turned w B p v nodes sent (l ++ [q]) v' w' := by
  obtain ⟨L, h, rfl⟩ := h
  rw [List.length_map] at hq hf
  have h0 : 0 < L.length := by
    cases L with
    | nil => simp at hq
    | cons m L => simp
  refine (netTwice_any k w B p v nodes sent L h h0 hf hk0 hk1).mono ?_
  rintro e w' ⟨v', L', rfl, hn, hl', hu, hk, _⟩
  rw [List.getElem?_map, List.getElem?_eq_getElem (placeOf_lt k h0)] at hq
  simp only [Option.map_some, Option.some.injEq] at hq
  rw [hq] at hl'
  exact ⟨v', rfl, ⟨L', hn, hl'⟩, hu, hk⟩
theorem twice_off {w : World} {B p g : Nat} {v : Value} {nodes sent : Int} {l : List Pl} (h : NtOff w B p v nodes sent l g) (hg : g < w.heap.size) (k : Int) (q : Pl) (hq : l[placeOf k l.length]? = some q) (hf : l.length < 512) (hk0 : -9223372036854775808 ≤ k) (hk1 : k ≤ 9223372036854775807) :
    Calls Try.prog 29 #[.pointer (some ⟨p, 0, none⟩), .int .i64 k] w fun e w' => ∃ v', e = .returned (.bool true) ∧ NtOff w' B p v' nodes sent (l ++ [q]) g ∧ Upd (nfoot p v) w w' := by
  obtain ⟨L, h, rfl, k1, k2⟩ := h
  rw [List.length_map] at hq hf
  have h0 : 0 < L.length := by
    cases L with
    | nil => simp at hq
    | cons m L => simp
  refine (netTwice_any k w B p v nodes sent L h h0 hf hk0 hk1).mono ?_
  rintro e w' ⟨v', L', rfl, hn, hl', hu, hk, hm⟩
  rw [List.getElem?_map, List.getElem?_eq_getElem (placeOf_lt k h0)] at hq
  simp only [Option.map_some, Option.some.injEq] at hq
  rw [hq] at hl'
  refine ⟨v', rfl, ⟨L', hn, hl', fun m hm' ad e => ?_, ?_⟩, hu⟩
  · rcases hm m hm' with h | h
    · exact k1 m h ad e
    · have := h ad e
      omega
  · rintro (rfl | e)
    · exact k2 (.inl rfl)
    · rcases hk _ e with h | h
      · exact k2 (.inr h)
      · omega
theorem pending_plain {w : World} {B p : Nat} {v : Value} {nodes sent : Int} {l : List Pl} (h : Nt w B p v nodes sent l) :
    Calls Try.prog 30 #[.pointer (some ⟨p, 0, none⟩)] w fun e w' => ∃ x M, e = .returned x ∧ M.map Ms.plain = l ∧ w'.ownsRow w.heap.size 47 3 x l.length (mcells M) ∧
      (∀ m ∈ M, FreshMs w' w.heap.size m ∧ ∀ ad, m.A = some ad → x.ownBlock ≠ some ad.block) ∧ Below w.heap.size w w' := by
  obtain ⟨L, h, rfl⟩ := h
  refine (netPending_any w B p v nodes sent L h).mono ?_
  rintro e w' ⟨x, M, rfl, hm, ho, hf, hb⟩
  exact ⟨x, M, rfl, hm, by rw [List.length_map]; exact ho, hf, hb⟩
/-- What was got is left as it is by what turns the net alone. -/
theorem BodyAt.off_upd {w w' : World} {F : Nat → Prop} {f t : Int} {A : Option Addr} {c : Nat} {b : List UInt8} (h : BodyAt w ⟨f, t, A, c, b⟩) (u : Upd F w w') (hF : ∀ ad, A = some ad → ¬ F ad.block) : BodyAt w' ⟨f, t, A, c, b⟩ :=
  h.upd u (fun _ ad e => hF ad e)

end Go.Proofs.Ytkpkimhpecbkoaa
