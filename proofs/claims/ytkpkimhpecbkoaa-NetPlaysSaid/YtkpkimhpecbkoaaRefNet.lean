/-
  The walks of the reference's net: at, Send.
-/
import Derived.Test.YtkpkimhpecbkoaaNetPlain
import Derived.Lib.SliceRun
set_option linter.unusedVariables false
set_option linter.unusedSimpArgs false
namespace Go.Proofs.Ytkpkimhpecbkoaa
open Go.RowKit

def rcell (q : Pl) : List Value := [.int .i64 q.1, .int .i64 q.2.1, .string ⟨q.2.2.toArray⟩]
def rcells (l : List Pl) : List Value := l.flatMap rcell
theorem rcells_append (l m : List Pl) : rcells (l ++ m) = rcells l ++ rcells m := by simp [rcells]
theorem rcells_length (l : List Pl) : (rcells l).length = l.length * 3 := by
  induction l with
  | nil => rfl
  | cons m l ih => rw [rcells, List.flatMap_cons, List.length_append]; show 3 + (rcells l).length = _; rw [ih, List.length_cons]; omega
theorem rcells_one (l : List Pl) : ∀ u ∈ rcells l, u.oneCell' = true := by
  intro u hu
  simp only [rcells, List.mem_flatMap] at hu
  obtain ⟨m, _, hm⟩ := hu
  simp only [rcell, List.mem_cons, List.not_mem_nil, or_false] at hm
  rcases hm with rfl | rfl | rfl <;> rfl
theorem rcells_take (l : List Pl) (i : Nat) : (rcells l).take (i * 3) = rcells (l.take i) := by
  by_cases h : i ≤ l.length
  · conv => lhs; rw [← List.take_append_drop i l, rcells_append]
    have e : i * 3 = (rcells (l.take i)).length := by rw [rcells_length, List.length_take]; omega
    rw [e]
    exact List.take_left
  · rw [List.take_of_length_le (by rw [rcells_length]; omega), List.take_of_length_le (by omega)]
theorem rcells_drop (l : List Pl) (i : Nat) : (rcells l).drop (i * 3) = rcells (l.drop i) := by
  by_cases h : i ≤ l.length
  · conv => lhs; rw [← List.take_append_drop i l, rcells_append]
    have e : i * 3 = (rcells (l.take i)).length := by rw [rcells_length, List.length_take]; omega
    rw [e]
    exact List.drop_left
  · rw [List.drop_of_length_le (by rw [rcells_length]; omega), List.drop_of_length_le (by omega)]
    rfl
theorem rcells_get (l : List Pl) (i : Nat) (h : i < l.length) : (rcells l)[i * 3]? = some (.int .i64 l[i].1) ∧ (rcells l)[i * 3 + 1]? = some (.int .i64 l[i].2.1) ∧ (rcells l)[i * 3 + 2]? = some (.string ⟨l[i].2.2.toArray⟩) := by
  have e : (rcells l).drop (i * 3) = rcell l[i] ++ rcells (l.drop (i + 1)) := by
    rw [rcells_drop, List.drop_eq_getElem_cons h]
    rfl
  have key : ∀ j, (rcells l)[i * 3 + j]? = (rcell l[i] ++ rcells (l.drop (i + 1)))[j]? := fun j => by rw [← e, List.getElem?_drop]
  exact ⟨by have := key 0; rw [Nat.add_zero] at this; rw [this]; rfl, by rw [key 1]; rfl, by rw [key 2]; rfl⟩
theorem infoRm : (Try.prog.info? 65).map (fun i => (i.zero, i.size, i.bytes)) = some (some (.agg #[.int .i64 0, .int .i64 0, .string ⟨#[]⟩]), 3, 32) := by kernel_rfl

/-- The reference's net at block q. -/
structure RNet (w : World) (B q : Nat) (u : Value) (nodes sent : Int) (l : List Pl) : Prop where
  at_ : w.heap[q]? = some (.cells #[.int .i64 nodes, u, .int .i64 sent] 62 (0, 0))
  own : w.ownsRow B 65 3 u l.length (rcells l)
  ne : u.ownBlock ≠ some q
  small : l.length ≤ 512
  base : B ≤ q
namespace RNet
variable {w w' : World} {B q : Nat} {u : Value} {nodes sent : Int} {l : List Pl}
theorem lt (h : RNet w B q u nodes sent l) : q < w.heap.size := (Array.getElem?_eq_some_iff.1 h.at_).1
theorem c0 (h : RNet w B q u nodes sent l) : w.cell? ⟨q, 0, none⟩ = some (.int .i64 nodes) := by rw [cell_of_row w q 0 _ _ _ h.at_]; rfl
theorem c1 (h : RNet w B q u nodes sent l) : w.cell? ⟨q, 1, none⟩ = some u := by rw [cell_of_row w q 1 _ _ _ h.at_]; rfl
theorem c2 (h : RNet w B q u nodes sent l) : w.cell? ⟨q, 2, none⟩ = some (.int .i64 sent) := by rw [cell_of_row w q 2 _ _ _ h.at_]; rfl
theorem f0 (h : RNet w B q u nodes sent l) (j : Nat) : w.frozen? ⟨q, j, none⟩ = false := frozen_of_row w q j _ _ h.at_
theorem foot_lt (h : RNet w B q u nodes sent l) : ∀ k, nfoot q u k → k < w.heap.size := by
  rintro k (rfl | hk)
  · exact h.lt
  · exact (h.own.lt k hk).2
theorem foot_base (h : RNet w B q u nodes sent l) : ∀ k, nfoot q u k → B ≤ k := by
  rintro k (rfl | hk)
  · exact h.base
  · exact (h.own.lt k hk).1
theorem upd {F : Nat → Prop} (h : RNet w B q u nodes sent l) (x : Upd F w w') (hF : ∀ k, nfoot q u k → ¬ F k) : RNet w' B q u nodes sent l :=
  ⟨(x.block q h.lt (hF q (.inl rfl))).trans h.at_, own_upd h.own x (fun k hk => hF k (.inr hk)), h.ne, h.small, h.base⟩
theorem below (h : RNet w B q u nodes sent l) (hb : Below w.heap.size w w') : RNet w' B q u nodes sent l := h.upd (Upd.of_below (F := fun _ => False) hb) (fun _ _ => id)
end RNet

set_option maxHeartbeats 1000000 in
theorem refAt_none (k : Int) (w : World) (B p : Nat) (v : Value) (nodes sent : Int) (h : RNet w B p v nodes sent []) :
    Calls Try.prog 47 #[.pointer (some ⟨p, 0, none⟩), .int .i64 k] w fun e w' => e = .returned (.int .i64 (-1)) ∧ w = w' := by
  obtain ⟨A0, c0, rfl, _⟩ := own_slice h.own
  have h1 := h.c1
  clear h
  go_enter Try.func47, Try.ntmps47
  go_wp2
  go_ret
  exact ⟨rfl, rfl⟩

set_option maxHeartbeats 1000000 in
theorem refAt_any (k : Int) (w : World) (B p : Nat) (v : Value) (nodes sent : Int) (L : List Pl) (h : RNet w B p v nodes sent L) (h0 : 0 < L.length) (hk0 : -9223372036854775808 ≤ k) (hk1 : k ≤ 9223372036854775807) :
    Calls Try.prog 47 #[.pointer (some ⟨p, 0, none⟩), .int .i64 k] w fun e w' => e = .returned (.int .i64 (placeOf k L.length : Nat)) ∧ w = w' := by
  obtain ⟨A0, c0, rfl, _⟩ := own_slice h.own
  have h1 := h.c1
  have hs := h.small
  clear h
  generalize L.length = n at *
  unfold placeOf
  by_cases hn : k < 0
  · obtain ⟨q, hq⟩ := Int.eq_ofNat_of_zero_le (show 0 ≤ -(k + 1) by omega)
    have hq1 : (q : Int) ≤ 9223372036854775807 := by omega
    rw [if_pos hn, hq, Int.toNat_natCast]
    obtain rfl : k = -(q : Int) - 1 := by omega
    have e1 : -(-(q : Int) - 1 + 1) = (q : Int) := by omega
    go_enter Try.func47, Try.ntmps47
    go_wp2
    go_ret
    exact ⟨ret_int (by first | rfl | (simp; done) | omega), rfl⟩
  · obtain ⟨q, rfl⟩ := Int.eq_ofNat_of_zero_le (show 0 ≤ k by omega)
    rw [if_neg hn, Int.toNat_natCast]
    go_enter Try.func47, Try.ntmps47
    go_wp2
    go_ret
    exact ⟨ret_int (by first | rfl | (simp; done) | omega), rfl⟩

set_option maxHeartbeats 1000000 in
theorem refSend_arg (w : World) (B p : Nat) (v : Value) (nodes sent : Int) (L : List Pl) (h : RNet w B p v nodes sent L) (f t : Int) (s : ByteArray) (hb : f < 0 ∨ nodes ≤ f ∨ t < 0 ∨ nodes ≤ t) :
    Calls Try.prog 35 #[.pointer (some ⟨p, 0, none⟩), .int .i64 f, .int .i64 t, .string s] w fun e w' => e = .returned (.int .i64 1) ∧ w = w' := by
  have h0 := h.c0
  clear h
  by_cases h1 : f < 0
  · clear hb
    go_enter Try.func35, Try.ntmps35
    go_wp2
    go_ret
    exact ⟨rfl, rfl⟩
  · by_cases h2 : nodes ≤ f
    · clear hb
      go_enter Try.func35, Try.ntmps35
      go_wp2
      go_ret
      exact ⟨rfl, rfl⟩
    · by_cases h3 : t < 0
      · clear hb
        go_enter Try.func35, Try.ntmps35
        go_wp2
        go_ret
        exact ⟨rfl, rfl⟩
      · have h4 : nodes ≤ t := by omega
        clear hb
        go_enter Try.func35, Try.ntmps35
        go_wp2
        go_ret
        exact ⟨rfl, rfl⟩

set_option maxHeartbeats 1000000 in
theorem refSend_full (w : World) (B p : Nat) (v : Value) (nodes sent : Int) (L : List Pl) (h : RNet w B p v nodes sent L) (f t : Int) (s : ByteArray) (h1 : 0 ≤ f) (h2 : f < nodes) (h3 : 0 ≤ t) (h4 : t < nodes) (hf : 512 ≤ L.length) :
    Calls Try.prog 35 #[.pointer (some ⟨p, 0, none⟩), .int .i64 f, .int .i64 t, .string s] w fun e w' => e = .returned (.int .i64 13) ∧ w = w' := by
  obtain ⟨A0, c0, rfl, _⟩ := own_slice h.own
  have h0 := h.c0
  have h5 := h.c1
  clear h
  have hf' : (512 : Int) ≤ (L.length : Int) := by omega
  go_enter Try.func35, Try.ntmps35
  go_wp2
  go_ret
  exact ⟨rfl, rfl⟩

end Go.Proofs.Ytkpkimhpecbkoaa
