/-
  Both nets, and the blocks that are neither's: told by the world alone.
-/
import Derived.Test.YtkpkimhpecbkoaaNetZ
import Derived.Test.YtkpkimhpecbkoaaAskZ
import Derived.Test.YtkpkimhpecbkoaaOutline
set_option linter.unusedVariables false
set_option linter.unusedSimpArgs false
namespace Go.Proofs.Ytkpkimhpecbkoaa
open Go.RowKit

/-- A block that is no net's. -/
def Good (p q : Nat) (w : World) (k : Nat) : Prop := k < w.heap.size ∧ ∀ v u, w.cell? ⟨p, 1, none⟩ = some v → w.cell? ⟨q, 1, none⟩ = some u → ¬ nfoot p v k ∧ ¬ nfoot q u k
def NG (w0 w : World) (p q : Nat) (nodes s1 : Int) (l1 : List Pl) (s2 : Int) (l2 : List Pl) : Prop := NZ w0 w (fun _ => False) p q nodes s1 l1 s2 l2
structure Keep (p q : Nat) (w w' : World) : Prop where
  upd : Upd (fun k => ¬ Good p q w k) w w'
  good : ∀ k, Good p q w k → Good p q w' k
theorem Keep.refl (p q : Nat) (w : World) : Keep p q w w := ⟨Upd.refl _ _, fun _ h => h⟩
theorem Keep.trans {p q : Nat} {a b c : World} (h : Keep p q a b) (k : Keep p q b c) : Keep p q a c :=
  ⟨h.upd.trans k.upd (fun i _ hi hg => hi (h.good i hg)), fun i hi => k.good i (h.good i hi)⟩
theorem Keep.block {p q : Nat} {w w' : World} (h : Keep p q w w') {k : Nat} (hk : Good p q w k) : w'.heap[k]? = w.heap[k]? := h.upd.block k hk.1 (fun hn => hn hk)
theorem Keep.rb {p q : Nat} {w w' : World} (h : Keep p q w w') {A : Option Addr} {b : List UInt8} (hr : RB w A b) (hg : 0 < b.length → ∀ ad, A = some ad → Good p q w ad.block) : RB w' A b :=
  (hr.cells.upd h.upd (fun h0 ad e hn => hn (hg (by rwa [bv_length] at h0) ad e))).bytes
namespace NZ
variable {w0 w w' : World} {K K' : Nat → Prop} {p q : Nat} {nodes s1 s2 : Int} {l1 l2 : List Pl}
theorem good (h : NZ w0 w K p q nodes s1 l1 s2 l2) {k : Nat} (hk : K k) : Good p q w k := by
  obtain ⟨v, u, hp, hK⟩ := h
  refine ⟨(hK k hk).1, fun v' u' h1 h2 => ?_⟩
  obtain ⟨L, hn, _⟩ := hp.n
  rw [hn.c1] at h1
  rw [hp.r.c1] at h2
  cases h1
  cases h2
  exact (hK k hk).2
theorem toG (h : NZ w0 w K p q nodes s1 l1 s2 l2) : NG w0 w p q nodes s1 l1 s2 l2 := h.less (fun _ hk => hk.elim)
theorem kept (h : NZ w0 w' K p q nodes s1 l1 s2 l2) (hK : ∀ k, Good p q w k → K k) (hu : Upd (fun k => ¬ Good p q w k) w w') : NG w0 w' p q nodes s1 l1 s2 l2 ∧ Keep p q w w' :=
  ⟨h.toG, hu, fun k hk => h.good (hK k hk)⟩
end NZ
namespace NG
variable {w0 w w' : World} {p q : Nat} {nodes s1 s2 : Int} {l1 l2 : List Pl}
theorem toZ (h : NG w0 w p q nodes s1 l1 s2 l2) : NZ w0 w (Good p q w) p q nodes s1 l1 s2 l2 := by
  obtain ⟨v, u, hp, _⟩ := h
  refine ⟨v, u, hp, fun k hk => ?_⟩
  obtain ⟨L, hn, _⟩ := hp.n
  exact ⟨hk.1, hk.2 v u hn.c1 hp.r.c1⟩
theorem bel (h : NG w0 w p q nodes s1 l1 s2 l2) : Below w0.heap.size w0 w := NZ.bel h
theorem fresh (h : NG w0 w p q nodes s1 l1 s2 l2) (hb : Below w.heap.size w w') : NG w0 w' p q nodes s1 l1 s2 l2 ∧ Keep p q w w' ∧ ∀ k, w.heap.size ≤ k → k < w'.heap.size → Good p q w' k := by
  have hz := h.toZ.wide (K' := fun k => Good p q w k ∨ (w.heap.size ≤ k ∧ k < w'.heap.size)) hb (fun k hk => hk)
  exact ⟨hz.toG, ⟨Upd.of_below hb, fun k hk => hz.good (.inl hk)⟩, fun k h1 h2 => hz.good (.inr ⟨h1, h2⟩)⟩
theorem below (h : NG w0 w p q nodes s1 l1 s2 l2) (hb : Below w.heap.size w w') : NG w0 w' p q nodes s1 l1 s2 l2 := (h.fresh hb).1
theorem keepB (h : NG w0 w p q nodes s1 l1 s2 l2) (hb : Below w.heap.size w w') : Keep p q w w' := (h.fresh hb).2.1
theorem drew (h : NG w0 w p q nodes s1 l1 s2 l2) : NG w0 w.drew p q nodes s1 l1 s2 l2 := h.below ((Below.refl _ _).drew)

theorem send (h : NG w0 w p q nodes s1 l1 s2 l2) (f t : Int) (A : Option Addr) (n c : Nat) (b : List UInt8) (hl : b.length = n) (hb : b.length ≤ 140737488355328) (hr : RB w A b) (hnil : A = none → c = 0) (hs0 : 0 ≤ s1) (hs1 : s1 ≤ 1000000000) :
    Calls Try.prog 28 #[.pointer (some ⟨p, 0, none⟩), .int .i64 f, .int .i64 t, .slice A n c] w fun e w' => e = .returned (.int .i64 (sendTo nodes s1 l1 f t b).1) ∧ NG w0 w' p q nodes (sendTo nodes s1 l1 f t b).2.1 (sendTo nodes s1 l1 f t b).2.2 s2 l2 ∧ Keep p q w w' := by
  refine (h.toZ.send f t A n c b hl hb hr hnil hs0 hs1).mono ?_
  rintro e w' ⟨rfl, hz, hu⟩
  exact ⟨rfl, hz.kept (fun _ h => h) hu⟩
theorem rsend (h : NG w0 w p q nodes s1 l1 s2 l2) (f t : Int) (s : ByteArray) (hs0 : 0 ≤ s2) (hs1 : s2 ≤ 1000000000) :
    Calls Try.prog 35 #[.pointer (some ⟨q, 0, none⟩), .int .i64 f, .int .i64 t, .string s] w fun e w' => e = .returned (.int .i64 (sendTo nodes s2 l2 f t s.data.toList).1) ∧ NG w0 w' p q nodes s1 l1 (sendTo nodes s2 l2 f t s.data.toList).2.1 (sendTo nodes s2 l2 f t s.data.toList).2.2 ∧ Keep p q w w' := by
  refine (h.toZ.rsend f t s hs0 hs1).mono ?_
  rintro e w' ⟨rfl, hz, hu⟩
  exact ⟨rfl, hz.kept (fun _ h => h) hu⟩
theorem twice (h : NG w0 w p q nodes s1 l1 s2 l2) (k : Int) (hk0 : -9223372036854775808 ≤ k) (hk1 : k ≤ 9223372036854775807) :
    Calls Try.prog 29 #[.pointer (some ⟨p, 0, none⟩), .int .i64 k] w fun e w' => e = .returned (.bool (twiceOf k l1).1) ∧ NG w0 w' p q nodes s1 (twiceOf k l1).2 s2 l2 ∧ Keep p q w w' := by
  refine (h.toZ.twice k hk0 hk1).mono ?_
  rintro e w' ⟨rfl, hz, hu⟩
  exact ⟨rfl, hz.kept (fun _ h => h) hu⟩
theorem rtwice (h : NG w0 w p q nodes s1 l1 s2 l2) (k : Int) (hk0 : -9223372036854775808 ≤ k) (hk1 : k ≤ 9223372036854775807) :
    Calls Try.prog 39 #[.pointer (some ⟨q, 0, none⟩), .int .i64 k] w fun e w' => e = .returned (.bool (twiceOf k l2).1) ∧ NG w0 w' p q nodes s1 l1 s2 (twiceOf k l2).2 ∧ Keep p q w w' := by
  refine (h.toZ.rtwice k hk0 hk1).mono ?_
  rintro e w' ⟨rfl, hz, hu⟩
  exact ⟨rfl, hz.kept (fun _ h => h) hu⟩
theorem drop (h : NG w0 w p q nodes s1 l1 s2 l2) (k : Int) (hk0 : -9223372036854775808 ≤ k) (hk1 : k ≤ 9223372036854775807) :
    Calls Try.prog 34 #[.pointer (some ⟨p, 0, none⟩), .int .i64 k] w fun e w' => e = .returned (.bool (takeOf k l1).2) ∧ NG w0 w' p q nodes s1 (l1.eraseIdx (placeOf k l1.length)) s2 l2 ∧ Keep p q w w' := by
  refine (h.toZ.drop k hk0 hk1).mono ?_
  rintro e w' ⟨rfl, hz, hu⟩
  exact ⟨rfl, hz.kept (fun _ h => h) hu⟩
theorem rdrop (h : NG w0 w p q nodes s1 l1 s2 l2) (k : Int) (hk0 : -9223372036854775808 ≤ k) (hk1 : k ≤ 9223372036854775807) :
    Calls Try.prog 38 #[.pointer (some ⟨q, 0, none⟩), .int .i64 k] w fun e w' => e = .returned (.bool (takeOf k l2).2) ∧ NG w0 w' p q nodes s1 l1 s2 (l2.eraseIdx (placeOf k l2.length)) ∧ Keep p q w w' := by
  refine (h.toZ.rdrop k hk0 hk1).mono ?_
  rintro e w' ⟨rfl, hz, hu⟩
  exact ⟨rfl, hz.kept (fun _ h => h) hu⟩
theorem rtake (h : NG w0 w p q nodes s1 l1 s2 l2) (k : Int) (hk0 : -9223372036854775808 ≤ k) (hk1 : k ≤ 9223372036854775807) :
    Calls Try.prog 36 #[.pointer (some ⟨q, 0, none⟩), .int .i64 k] w fun e w' => e = .returned (.tuple #[.agg #[.int .i64 (takeOf k l2).1.1, .int .i64 (takeOf k l2).1.2.1, .string ⟨(takeOf k l2).1.2.2.toArray⟩], .bool (takeOf k l2).2]) ∧
      NG w0 w' p q nodes s1 l1 s2 (l2.eraseIdx (placeOf k l2.length)) ∧ Keep p q w w' := by
  refine (h.toZ.rtake k hk0 hk1).mono ?_
  rintro e w' ⟨rfl, hz, hu⟩
  exact ⟨rfl, hz.kept (fun _ h => h) hu⟩
theorem take (h : NG w0 w p q nodes s1 l1 s2 l2) (k : Int) (hk0 : -9223372036854775808 ≤ k) (hk1 : k ≤ 9223372036854775807) :
    Calls Try.prog 31 #[.pointer (some ⟨p, 0, none⟩), .int .i64 k] w fun e w' => ∃ A c, e = .returned (.tuple #[.agg #[.int .i64 (takeOf k l1).1.1, .int .i64 (takeOf k l1).1.2.1, .slice A (takeOf k l1).1.2.2.length c], .bool (takeOf k l1).2]) ∧
      NG w0 w' p q nodes s1 (l1.eraseIdx (placeOf k l1.length)) s2 l2 ∧ Keep p q w w' ∧ RB w' A (takeOf k l1).1.2.2 ∧ (0 < (takeOf k l1).1.2.2.length → ∀ ad, A = some ad → Good p q w' ad.block) := by
  refine (h.toZ.take k hk0 hk1).mono ?_
  rintro e w' ⟨A, c, rfl, hz, hu, hr⟩
  have h2 := hz.kept (fun _ h => .inl h) hu
  exact ⟨A, c, rfl, h2.1, h2.2, hr, fun h0 ad e => hz.good (.inr ⟨h0, ad, e, rfl⟩)⟩
end NG

/-- Both nets in the midst of a region: operation i1 is the program's call, i2 the reference's; the block z stays. -/
structure NI (w0 : World) (p q z : Nat) (ob : Obj) (nodes : Int) (i1 i2 : Nat) (s : Int) (l : List Pl) (s' : Int) (l' : List Pl) (lst : Array Bool) (W : World) : Prop where
  g : NG w0 W p q nodes (if lst.getD i1 false then s' else s) (if lst.getD i1 false then l' else l) (if lst.getD i2 false then s' else s) (if lst.getD i2 false then l' else l)
  at_ : W.heap[z]? = some ob
  gz : Good p q W z
namespace NI
variable {w0 W W' : World} {p q z i1 i2 : Nat} {ob : Obj} {nodes s s' : Int} {l l' : List Pl} {lst : Array Bool}
theorem set (h : NI w0 p q z ob nodes i1 i2 s l s' l' lst W) (i : Nat) (hi : i ≠ i1 ∧ i ≠ i2 := by decide) : NI w0 p q z ob nodes i1 i2 s l s' l' (lst.setIfInBounds i true) W := by
  have e : ∀ j, i ≠ j → (lst.setIfInBounds i true).getD j false = lst.getD j false := fun j hj => by
    rw [Array.getD_eq_getD_getElem?, Array.getD_eq_getD_getElem?, Array.getElem?_setIfInBounds, if_neg hj]
  refine ⟨?_, h.at_, h.gz⟩
  rw [e i1 hi.1, e i2 hi.2]
  exact h.g
theorem below (h : NI w0 p q z ob nodes i1 i2 s l s' l' lst W) (hb : Below W.heap.size W W') : NI w0 p q z ob nodes i1 i2 s l s' l' lst W' :=
  ⟨h.g.below hb, (hb.block z h.gz.1).trans h.at_, (h.g.keepB hb).good z h.gz⟩
theorem one (h : NI w0 p q z ob nodes i1 i2 s l s' l' lst W) (hn : lst.getD i1 false = false) : NG w0 W p q nodes s l (if lst.getD i2 false then s' else s) (if lst.getD i2 false then l' else l) := by
  have := h.g
  rw [hn] at this
  exact this
theorem two (h : NI w0 p q z ob nodes i1 i2 s l s' l' lst W) (hn : lst.getD i2 false = false) : NG w0 W p q nodes (if lst.getD i1 false then s' else s) (if lst.getD i1 false then l' else l) s l := by
  have := h.g
  rw [hn] at this
  exact this
theorem did1 (h : NI w0 p q z ob nodes i1 i2 s l s' l' lst W) (hz : NG w0 W' p q nodes s' l' (if lst.getD i2 false then s' else s) (if lst.getD i2 false then l' else l)) (hk : Keep p q W W') (h1 : i1 < lst.size) (h12 : i1 ≠ i2 := by decide) :
    NI w0 p q z ob nodes i1 i2 s l s' l' (lst.setIfInBounds i1 true) W' := by
  have e : (lst.setIfInBounds i1 true).getD i2 false = lst.getD i2 false := by
    rw [Array.getD_eq_getD_getElem?, Array.getD_eq_getD_getElem?, Array.getElem?_setIfInBounds, if_neg h12]
  have e1 : (lst.setIfInBounds i1 true).getD i1 false = true := by
    rw [Array.getD_eq_getD_getElem?, Array.getElem?_setIfInBounds, if_pos rfl, if_pos h1]
    rfl
  refine ⟨?_, (hk.block h.gz).trans h.at_, hk.good z h.gz⟩
  rw [e, e1]
  exact hz
theorem did2 (h : NI w0 p q z ob nodes i1 i2 s l s' l' lst W) (hz : NG w0 W' p q nodes (if lst.getD i1 false then s' else s) (if lst.getD i1 false then l' else l) s' l') (hk : Keep p q W W') (h1 : i2 < lst.size) (h12 : i2 ≠ i1 := by decide) :
    NI w0 p q z ob nodes i1 i2 s l s' l' (lst.setIfInBounds i2 true) W' := by
  have e : (lst.setIfInBounds i2 true).getD i1 false = lst.getD i1 false := by
    rw [Array.getD_eq_getD_getElem?, Array.getD_eq_getD_getElem?, Array.getElem?_setIfInBounds, if_neg h12]
  have e1 : (lst.setIfInBounds i2 true).getD i2 false = true := by
    rw [Array.getD_eq_getD_getElem?, Array.getElem?_setIfInBounds, if_pos rfl, if_pos h1]
    rfl
  refine ⟨?_, (hk.block h.gz).trans h.at_, hk.good z h.gz⟩
  rw [e, e1]
  exact hz
/-- At the region's end. -/
theorem fin (h : NI w0 p q z ob nodes i1 i2 s l s' l' lst W) (h1 : lst.getD i1 false = true) (h2 : lst.getD i2 false = true) : NG w0 W p q nodes s' l' s' l' := by
  have := h.g
  rw [h1, h2] at this
  exact this
theorem start (hg : NG w0 W p q nodes s l s l) (hz : W.heap[z]? = some ob) (hgz : Good p q W z) (n : Nat) : NI w0 p q z ob nodes i1 i2 s l s' l' (Array.replicate n false) W.drew := by
  have e : ∀ j, (Array.replicate n false).getD j false = false := fun j => by
    rw [Array.getD_eq_getD_getElem?, Array.getElem?_replicate]
    split <;> rfl
  refine ⟨?_, hz, (hg.keepB ((Below.refl _ _).drew)).good z hgz⟩
  rw [e, e]
  exact hg.drew
end NI

set_option maxHeartbeats 1000000 in
/-- The law's comparison of like messages. -/
theorem same_eq (f t : Int) (A : Option Addr) (c : Nat) (b : List UInt8) (w : World) (h : RB w A b) :
    Calls Try.prog 37 #[.agg #[.int .i64 f, .int .i64 t, .slice A b.length c], .agg #[.int .i64 f, .int .i64 t, .string ⟨b.toArray⟩]] w fun e w' => e = .returned (.bool true) ∧ Below w.heap.size w w' := by
  obtain ⟨z, hz⟩ : ∃ z : ByteArray, z = ⟨b.toArray⟩ := ⟨_, rfl⟩
  rw [← hz]
  have conv : ∀ (W : World), Below w.heap.size w W → (convert 41 9 (.slice A b.length c)).run Try.prog W = .ok (.string z) W := fun W hb => by
    rw [hz]
    exact run_string_RB (P := Try.prog) W 41 9 5 Try.underlying41 Try.underlying5 Try.underlying9 A _ c _ rfl (h.below hb)
  have c1 := fun o1 o2 => conv ((w.alloc o1).alloc o2) (((Below.refl _ _).alloc (Nat.le_refl _) o1).alloc (by simp) o2)
  clear conv hz h
  go_enter Try.func37, Try.ntmps37
  go_wp2_with fail
  go_ret
  exact ⟨rfl, ((Below.refl _ _).alloc (Nat.le_refl _) _).alloc (by simp) _⟩
end Go.Proofs.Ytkpkimhpecbkoaa
