/-
  The walks of package net: New, Sent, find, copied and slices.Delete on messages.
-/
import Derived.Test.YtkpkimhpecbkoaaClone
import Derived.Deep.CutBlock
set_option linter.unusedVariables false
set_option linter.unusedSimpArgs false
namespace Go.Proofs.Ytkpkimhpecbkoaa
open Go.RowKit

/-- A message: who sends, to whom, the body's slice (address, capacity) and its bytes. -/
structure Ms where
  f : Int
  t : Int
  A : Option Addr
  c : Nat
  b : List UInt8
def Ms.cells (m : Ms) : List Value := [.int .i64 m.f, .int .i64 m.t, .slice m.A m.b.length m.c]
def Ms.val (m : Ms) : Value := .agg #[.int .i64 m.f, .int .i64 m.t, .slice m.A m.b.length m.c]
def Ms.plain (m : Ms) : Int × Int × List UInt8 := (m.f, m.t, m.b)
def mcells (L : List Ms) : List Value := L.flatMap Ms.cells
theorem mcells_append (L M : List Ms) : mcells (L ++ M) = mcells L ++ mcells M := by simp [mcells]
theorem mcells_length (L : List Ms) : (mcells L).length = L.length * 3 := by
  induction L with
  | nil => rfl
  | cons m L ih =>
    have e : mcells (m :: L) = m.cells ++ mcells L := rfl
    rw [e, List.length_append, ih, List.length_cons]
    show 3 + L.length * 3 = _
    omega
theorem mcells_one (L : List Ms) : ∀ u ∈ mcells L, u.oneCell' = true := by
  intro u hu
  simp only [mcells, List.mem_flatMap] at hu
  obtain ⟨m, _, hm⟩ := hu
  simp only [Ms.cells, List.mem_cons, List.not_mem_nil, or_false] at hm
  rcases hm with rfl | rfl | rfl <;> rfl
theorem mcells_take (L : List Ms) (i : Nat) : (mcells L).take (i * 3) = mcells (L.take i) := by
  by_cases h : i ≤ L.length
  · conv => lhs; rw [← List.take_append_drop i L, mcells_append]
    have e : i * 3 = (mcells (L.take i)).length := by rw [mcells_length, List.length_take]; omega
    rw [e]
    exact List.take_left
  · rw [List.take_of_length_le (by rw [mcells_length]; omega), List.take_of_length_le (by omega)]
theorem mcells_drop (L : List Ms) (i : Nat) : (mcells L).drop (i * 3) = mcells (L.drop i) := by
  by_cases h : i ≤ L.length
  · conv => lhs; rw [← List.take_append_drop i L, mcells_append]
    have e : i * 3 = (mcells (L.take i)).length := by rw [mcells_length, List.length_take]; omega
    rw [e]
    exact List.drop_left
  · rw [List.drop_of_length_le (by rw [mcells_length]; omega), List.drop_of_length_le (by omega)]
    rfl
theorem mcells_get (L : List Ms) (i : Nat) (h : i < L.length) : (mcells L)[i * 3]? = some (.int .i64 L[i].f) ∧ (mcells L)[i * 3 + 1]? = some (.int .i64 L[i].t) ∧ (mcells L)[i * 3 + 2]? = some (.slice L[i].A L[i].b.length L[i].c) := by
  have e : (mcells L).drop (i * 3) = L[i].cells ++ mcells (L.drop (i + 1)) := by
    rw [mcells_drop, List.drop_eq_getElem_cons h]
    rfl
  have key : ∀ j, (mcells L)[i * 3 + j]? = (L[i].cells ++ mcells (L.drop (i + 1)))[j]? := fun j => by rw [← e, List.getElem?_drop]
  exact ⟨by have := key 0; rw [Nat.add_zero] at this; rw [this]; rfl, by rw [key 1]; rfl, by rw [key 2]; rfl⟩

/-- What the world must say of a message's body. -/
structure BodyAt (w : World) (m : Ms) : Prop where
  r : RB w m.A m.b
  nil : m.A = none → m.c = 0
  le : m.b.length ≤ m.c
  small : m.b.length ≤ 140737488355328
def Ms.off (m : Ms) (F : Nat → Prop) : Prop := 0 < m.b.length → ∀ ad, m.A = some ad → ¬ F ad.block
theorem BodyAt.upd {F : Nat → Prop} {w w' : World} {m : Ms} (h : BodyAt w m) (u : Upd F w w') (ho : m.off F) : BodyAt w' m :=
  ⟨(h.r.cells.upd u (fun h0 => ho (by rwa [bv_length] at h0))).bytes, h.nil, h.le, h.small⟩
theorem BodyAt.below {w w' : World} {m : Ms} (h : BodyAt w m) (hb : Below w.heap.size w w') : BodyAt w' m := ⟨h.r.below hb, h.nil, h.le, h.small⟩
theorem BodyAt.lt {w : World} {m : Ms} (h : BodyAt w m) : 0 < m.b.length → ∀ ad, m.A = some ad → ad.block < w.heap.size := fun h0 ad e =>
  h.r.cells.inOld (by rwa [bv_length]) ad e
theorem Ms.off_mono {m : Ms} {F G : Nat → Prop} (h : m.off F) (hG : ∀ k, G k → F k) : m.off G := fun h0 ad e hg => h h0 ad e (hG _ hg)
/-- The slice of a row of one's own as a body. -/
theorem own_body {w : World} {B : Nat} {b : List UInt8} {v : Value} (h : w.ownsRow B 5 1 v b.length (bv b)) (hs : b.length ≤ 140737488355328) (f t : Int) :
    ∃ A c, v = .slice A b.length c ∧ BodyAt w ⟨f, t, A, c, b⟩ ∧ ∀ ad, A = some ad → B ≤ ad.block ∧ ad.block < w.heap.size := by
  have hlt := h.lt
  have hr : ∀ A m c, v = .slice A m c → RC w A (bv b) := fun A m c e => by subst e; exact own_RC h
  rcases h.2 with ⟨rfl, h0⟩ | ⟨g, cap, cur, rfl, hb, _, hn, _⟩
  · exact ⟨none, 0, by rw [h0], ⟨(hr _ _ _ rfl).bytes, fun _ => rfl, (by show b.length ≤ 0; omega), hs⟩, (fun ad e => by cases e)⟩
  · exact ⟨_, cap, rfl, ⟨(hr _ _ _ rfl).bytes, (fun e => by cases e), hn, hs⟩, (fun ad e => by cases e; exact hlt g rfl)⟩

/-- The blocks that a net's calls may turn. -/
def nfoot (p : Nat) (v : Value) (k : Nat) : Prop := k = p ∨ v.ownBlock = some k
/-- A net at block p: so many nodes, the messages under way (the row v), how many were sent. -/
structure NetAt (w : World) (B p : Nat) (v : Value) (nodes sent : Int) (L : List Ms) : Prop where
  at_ : w.heap[p]? = some (.cells #[.int .i64 nodes, v, .int .i64 sent] 74 (0, 0))
  own : w.ownsRow B 47 3 v L.length (mcells L)
  ne : v.ownBlock ≠ some p
  body : ∀ m ∈ L, BodyAt w m ∧ m.off (nfoot p v)
  small : L.length ≤ 512
  base : B ≤ p

namespace NetAt
variable {w w' : World} {B p : Nat} {v : Value} {nodes sent : Int} {L : List Ms}
theorem lt (h : NetAt w B p v nodes sent L) : p < w.heap.size := (Array.getElem?_eq_some_iff.1 h.at_).1
theorem c0 (h : NetAt w B p v nodes sent L) : w.cell? ⟨p, 0, none⟩ = some (.int .i64 nodes) := by rw [cell_of_row w p 0 _ _ _ h.at_]; rfl
theorem c1 (h : NetAt w B p v nodes sent L) : w.cell? ⟨p, 1, none⟩ = some v := by rw [cell_of_row w p 1 _ _ _ h.at_]; rfl
theorem c2 (h : NetAt w B p v nodes sent L) : w.cell? ⟨p, 2, none⟩ = some (.int .i64 sent) := by rw [cell_of_row w p 2 _ _ _ h.at_]; rfl
theorem f0 (h : NetAt w B p v nodes sent L) (j : Nat) : w.frozen? ⟨p, j, none⟩ = false := frozen_of_row w p j _ _ h.at_
theorem foot_lt (h : NetAt w B p v nodes sent L) : ∀ k, nfoot p v k → k < w.heap.size := by
  rintro k (rfl | hk)
  · exact h.lt
  · exact (h.own.lt k hk).2
theorem foot_base (h : NetAt w B p v nodes sent L) : ∀ k, nfoot p v k → B ≤ k := by
  rintro k (rfl | hk)
  · exact h.base
  · exact (h.own.lt k hk).1
theorem upd {F : Nat → Prop} (h : NetAt w B p v nodes sent L) (u : Upd F w w') (hp : ∀ k, nfoot p v k → ¬ F k) (hm : ∀ m ∈ L, m.off F) : NetAt w' B p v nodes sent L :=
  ⟨(u.block p h.lt (hp p (.inl rfl))).trans h.at_, own_upd h.own u (fun k hk => hp k (.inr hk)), h.ne, fun m hm' => ⟨(h.body m hm').1.upd u (hm m hm'), (h.body m hm').2⟩, h.small, h.base⟩
theorem below (h : NetAt w B p v nodes sent L) (hb : Below w.heap.size w w') : NetAt w' B p v nodes sent L := h.upd (Upd.of_below (F := fun _ => False) hb) (fun _ _ => id) (fun _ _ _ _ _ => id)
theorem drew (h : NetAt w B p v nodes sent L) : NetAt w.drew B p v nodes sent L := h.below ((Below.refl _ _).drew)
theorem goes {w0 : World} (h : NetAt w B p v nodes sent L) (hb : Below B w0 w) (u : Upd (nfoot p v) w w') : Below B w0 w' :=
  below_upd hb (by have := h.lt; have := h.base; omega) u h.foot_base
end NetAt

section
variable {P : Program}
/-- A struct in a cell and one value more, returned. -/
theorem results_row_tmp {fn : Func} {p u : Tmp} {ty : TypeId} (h : fn.results = #[.cell p ty, .tmp u]) (tmps : Array Value) (w : World) (g : Nat) (t : TypeId) (cs : Array Value) (fr : Nat × Nat) (d : TypeDesc)
    (hp : tmps.getD p undef = .pointer (some ⟨g, 0, none⟩)) (hg : w.heap[g]? = some (.cells cs t fr))
    (hu : P.underlying ty = some d) (hd : (match d with | .struct _ | .array _ _ => true | _ => false) = true) (hi : (P.info? ty).map (·.size) = some cs.size) :
    (results fn tmps).run P w = .ok (.tuple #[.agg cs, tmps.getD u undef]) w := by
  rw [results_cell_tmp h, hp]
  simp [asAddr, run_loadVar_row w g t ty cs fr d hg hu hd hi]
end
theorem infoMs : (Try.prog.info? 47).map (·.size) = some 3 := by kernel_rfl

/-- What a call that turns the net leaves. -/
def NetOut (w : World) (B p : Nat) (v : Value) (nodes sent : Int) (L : List Ms) (l : List (Int × Int × List UInt8)) (ret : Value) (e : Ending) (w' : World) : Prop :=
  ∃ v' L', e = .returned ret ∧ NetAt w' B p v' nodes sent L' ∧ L'.map Ms.plain = l ∧ Upd (nfoot p v) w w' ∧ (∀ k, v'.ownBlock = some k → v.ownBlock = some k ∨ w.heap.size ≤ k) ∧ ∀ q ∈ L', q ∈ L ∨ ∀ ad, q.A = some ad → w.heap.size ≤ ad.block

set_option maxHeartbeats 400000 in
theorem netNew_any (nodes : Int) (w : World) (h1 : 1 ≤ nodes) (h2 : nodes ≤ 5) : Calls Try.prog 27 #[.int .i64 nodes] w fun e w' =>
    e = .returned (.tuple #[.pointer (some ⟨w.heap.size, 0, none⟩), .int .i64 0]) ∧ NetAt w' w.heap.size w.heap.size (.slice none 0 0) nodes 0 [] ∧ Below w.heap.size w w' := by
  go_enter Try.func27, Try.ntmps27
  go_wp2
  go_ret2
  exact ⟨rfl, ⟨heap_alloc_new w _, World.ownsRow_nil _ _ _ _, by simp [Value.ownBlock], fun m hm => by simp at hm, by simp, Nat.le_refl _⟩, (Below.refl _ _).alloc (Nat.le_refl _) _⟩

set_option maxHeartbeats 400000 in
theorem netNew_no (nodes : Int) (w : World) (h : nodes < 1 ∨ 5 < nodes) : Calls Try.prog 27 #[.int .i64 nodes] w fun e w' =>
    e = .returned (.tuple #[.pointer none, .int .i64 1]) ∧ w = w' := by
  by_cases h1 : nodes < 1
  · clear h
    go_enter Try.func27, Try.ntmps27
    go_wp2
    go_ret2
    exact ⟨rfl, rfl⟩
  · have h2 : 5 < nodes := by omega
    clear h
    go_enter Try.func27, Try.ntmps27
    go_wp2
    go_ret2
    exact ⟨rfl, rfl⟩

set_option maxHeartbeats 400000 in
theorem netSent_any (w : World) (B p : Nat) (v : Value) (nodes sent : Int) (L : List Ms) (h : NetAt w B p v nodes sent L) :
    Calls Try.prog 33 #[.pointer (some ⟨p, 0, none⟩)] w fun e w' => e = .returned (.int .i64 sent) ∧ w = w' := by
  have h1 := h.c2
  clear h
  go_enter Try.func33, Try.ntmps33
  go_wp2
  go_ret
  exact ⟨rfl, rfl⟩

/-- The place that a number names. -/
def placeOf (k : Int) (n : Nat) : Nat := (if k < 0 then (-(k + 1)).toNat else k.toNat) % n
theorem placeOf_lt (k : Int) {n : Nat} (h : 0 < n) : placeOf k n < n := Nat.mod_lt _ h

set_option maxHeartbeats 1000000 in
theorem netFind_none (k : Int) (w : World) (B p : Nat) (v : Value) (nodes sent : Int) (h : NetAt w B p v nodes sent []) :
    Calls Try.prog 44 #[.pointer (some ⟨p, 0, none⟩), .int .i64 k] w fun e w' => e = .returned (.int .i64 (-1)) ∧ w = w' := by
  obtain ⟨A0, c0, rfl, _⟩ := own_slice h.own
  have h1 := h.c1
  clear h
  go_enter Try.func44, Try.ntmps44
  go_wp2
  go_ret
  exact ⟨rfl, rfl⟩

set_option maxHeartbeats 1000000 in
theorem netFind_any (k : Int) (w : World) (B p : Nat) (v : Value) (nodes sent : Int) (L : List Ms) (h : NetAt w B p v nodes sent L) (h0 : 0 < L.length) (hk0 : -9223372036854775808 ≤ k) (hk1 : k ≤ 9223372036854775807) :
    Calls Try.prog 44 #[.pointer (some ⟨p, 0, none⟩), .int .i64 k] w fun e w' => e = .returned (.int .i64 (placeOf k L.length : Nat)) ∧ w = w' := by
  obtain ⟨A0, c0, rfl, _⟩ := own_slice h.own
  have h1 := h.c1
  have hs := h.small
  clear h
  generalize L.length = n at *
  unfold placeOf
  by_cases hn : k < 0
  · obtain ⟨q, hq⟩ := Int.eq_ofNat_of_zero_le (show 0 ≤ -(k + 1) by omega)
    have hq1 : (q : Int) ≤ 9223372036854775807 := by omega
    rw [if_pos hn, hq, Int.toNat_natCast]
    obtain rfl : k = -(q : Int) - 1 := by omega
    have hm := Lib.hid (show ((q : Int).tmod (n : Int)) = ((q % n : Nat) : Int) by rw [Int.tmod_eq_emod_of_nonneg (by omega)]; omega)
    have e1 : -(-(q : Int) - 1 + 1) = (q : Int) := by omega
    go_enter Try.func44, Try.ntmps44
    go_wp2
    go_ret
    exact ⟨ret_int (by first | rfl | (simp; done) | omega), rfl⟩
  · obtain ⟨q, rfl⟩ := Int.eq_ofNat_of_zero_le (show 0 ≤ k by omega)
    rw [if_neg hn, Int.toNat_natCast]
    have hm := Lib.hid (show ((q : Int).tmod (n : Int)) = ((q % n : Nat) : Int) by rw [Int.tmod_eq_emod_of_nonneg (by omega)]; omega)
    go_enter Try.func44, Try.ntmps44
    go_wp2
    go_ret
    exact ⟨ret_int (by first | rfl | (simp; done) | omega), rfl⟩

set_option maxHeartbeats 1000000 in
theorem netCopied_any (m : Ms) (w : World) (h : BodyAt w m) :
    Calls Try.prog 45 #[m.val] w fun e w' => ∃ A c, e = .returned (Ms.val ⟨m.f, m.t, A, c, m.b⟩) ∧ BodyAt w' ⟨m.f, m.t, A, c, m.b⟩ ∧ (∀ ad, A = some ad → w.heap.size ≤ ad.block) ∧ w'.ownsRow w.heap.size 5 1 (.slice A m.b.length c) m.b.length (bv m.b) ∧ Below w.heap.size w w' := by
  obtain ⟨f, t, A, c, b⟩ := m
  unfold Ms.val
  have H := Lib.hid h
  have HN := Lib.hid h.nil
  have HS := Lib.hid h.small
  clear h
  simp only at *
  go_enter Try.func45, Try.ntmps45
  go_wp2_with fail
  refine (clone8_any A _ c b _ rfl HS.out ((H.out.r.below ((Below.refl _ _).alloc (Nat.le_refl _) _)).below ((Below.refl _ _).alloc (Nat.le_refl _) _)) HN.out).mono ?_
  rintro e w1 ⟨x, rfl, ho, hb⟩
  obtain ⟨A1, c1, rfl, hb1, hb2⟩ := own_body ho HS.out f t
  have HB := Lib.hid hb
  have HO := Lib.hid ho
  have HB1 := Lib.hid hb1
  have HB2 := Lib.hid hb2
  clear ho hb hb1 hb2
  have hx : w1.heap[w.heap.size]? = some (.cells #[.int .i64 f, .int .i64 t, .slice A b.length c] 47 (0, 0)) := (HB.out.block _ (by simp; omega)).trans ((Below.heap_alloc _ _ _ (by simp)).trans (heap_alloc_new w _))
  have hy : w1.heap[w.heap.size + 1]? = some (.cells #[.int .i64 0, .int .i64 0, .slice none 0 0] 47 (0, 0)) := (HB.out.block _ (by simp)).trans (by
    have h := heap_alloc_new (w.alloc (.cells #[.int .i64 f, .int .i64 t, .slice A b.length c] 47)) (.cells #[.int .i64 0, .int .i64 0, .slice none 0 0] 47)
    simpa using h)
  have k0 : w1.cell? ⟨w.heap.size, 0, none⟩ = some (.int .i64 f) := (cell_of_row w1 _ 0 _ _ _ hx).trans rfl
  have k1 : w1.cell? ⟨w.heap.size, 1, none⟩ = some (.int .i64 t) := (cell_of_row w1 _ 1 _ _ _ hx).trans rfl
  have k2 : w1.cell? ⟨w.heap.size, 2, none⟩ = some (.slice A b.length c) := (cell_of_row w1 _ 2 _ _ _ hx).trans rfl
  have g2 := frozen_of_row w1 w.heap.size 2 _ _ hx
  have l0 : w1.cell? ⟨w.heap.size + 1, 0, none⟩ = some (.int .i64 0) := (cell_of_row w1 _ 0 _ _ _ hy).trans rfl
  have l1 : w1.cell? ⟨w.heap.size + 1, 1, none⟩ = some (.int .i64 0) := (cell_of_row w1 _ 1 _ _ _ hy).trans rfl
  have l2 : w1.cell? ⟨w.heap.size + 1, 2, none⟩ = some (.slice none 0 0) := (cell_of_row w1 _ 2 _ _ _ hy).trans rfl
  have f0 := frozen_of_row w1 (w.heap.size + 1) 0 _ _ hy
  have f1 := frozen_of_row w1 (w.heap.size + 1) 1 _ _ hy
  have f2 := frozen_of_row w1 (w.heap.size + 1) 2 _ _ hy
  have HY := Lib.hid hy
  clear hx hy
  have hu : Upd (fun k => k = w.heap.size ∨ k = w.heap.size + 1) w1 ((((w1.setCell ⟨w.heap.size, 2, none⟩ (.slice A1 b.length c1)).setCell ⟨w.heap.size + 1, 0, none⟩ (.int .i64 f)).setCell ⟨w.heap.size + 1, 1, none⟩ (.int .i64 t)).setCell ⟨w.heap.size + 1, 2, none⟩ (.slice A1 b.length c1)) :=
    ((((Upd.refl _ _).setCell (fun _ => .inl rfl) _).setCell (fun _ => .inr rfl) _).setCell (fun _ => .inr rfl) _).setCell (fun _ => .inr rfl) _
  have hz : ((((w1.setCell ⟨w.heap.size, 2, none⟩ (.slice A1 b.length c1)).setCell ⟨w.heap.size + 1, 0, none⟩ (.int .i64 f)).setCell ⟨w.heap.size + 1, 1, none⟩ (.int .i64 t)).setCell ⟨w.heap.size + 1, 2, none⟩ (.slice A1 b.length c1)).heap[w.heap.size + 1]? = some (.cells #[.int .i64 f, .int .i64 t, .slice A1 b.length c1] 47 (0, 0)) := by
    rw [setCell_at (setCell_at (setCell_at ((Below.heap_setCell _ _ _ _ (by simp)).trans HY.out) _) _) _]
    rfl
  have HU := Lib.hid hu
  have HZ := Lib.hid hz
  clear hu hz HY
  go_wp2_with fail
  try simp only [Exit.inBlock, Exit.then]
  refine bodyPost_ret (v := .agg #[.int .i64 f, .int .i64 t, .slice A1 b.length c1]) ?_ rfl ?_
  · exact results_cell_row rfl _ _ (w.heap.size + 1) 47 _ (0, 0) _ rfl HZ.out Try.underlying47 rfl infoMs
  · have hsz : ∀ ad, A1 = some ad → w.heap.size + 2 ≤ ad.block ∧ ad.block < w1.heap.size := fun ad e => by have := HB2.out ad e; simpa using this
    refine ⟨A1, c1, rfl, HB1.out.upd HU.out (fun _ ad e hk => by have := hsz ad e; omega), fun ad e => by have := hsz ad e; omega, own_upd (own_lower HO.out (by simp; omega)) HU.out (fun k hk hk' => ?_), ?_⟩
    · have := HO.out.lt k hk
      simp at this
      omega
    · have hbb : Below w.heap.size w w1 := below_below (((Below.refl _ _).alloc (Nat.le_refl _) _).alloc (by simp) _) (by simp; omega) HB.out
      exact hbb.trans (HU.out.to_below hbb.size (fun k hk h => by omega))

section
variable {P : Program}
/-- 's = append(s[:k], news..)' in a row of one's own that has the room. -/
theorem run_append_own (w : World) (base : Nat) (t ty e : TypeId) (i : TypeInfo) (size : Nat) (ht : P.underlying t = some (.slice e)) (hi : P.info? e = some i) (hsz : i.size = size)
    (g n k cap : Nat) (xs : List Value) (hown : w.ownsRow base e size (.slice (some ⟨g, 0, none⟩) n cap) n xs) (hk : k ≤ n)
    (a : Addr) (m c : Nat) (news : List Value) (hl : news.length = m * size) (hnews : ∀ j u, news[j]? = some u → w.cell? (a.add j) = some u) (h1 : ∀ u ∈ news, u.oneCell' = true) (hroom : k + m ≤ cap) :
    ∃ w', (Builtin.append_ #[t, t] ty #[.slice (some ⟨g, 0, none⟩) k cap, .slice (some a) m c]).run P w = .ok (.slice (some ⟨g, 0, none⟩) (k + m) cap) w' ∧
      w'.ownsRow base e size (.slice (some ⟨g, 0, none⟩) (k + m) cap) (k + m) (xs.take (k * size) ++ news) ∧ Upd (fun q => q = g) w w' := by
  subst hsz
  rcases hown.2 with ⟨h', _⟩ | ⟨g', cap', cur, h', hb, hg, hnc, hcm, hcs, ht'⟩
  · cases h'
  · cases h'
    have hlen := hown.1
    have hfit : k * i.size + news.length ≤ cur.size := by rw [hl, hcs, ← Nat.add_mul]; exact Nat.mul_le_mul_right _ hroom
    have hr := run_append_room (P := P) w t ty e i ht hi g k cap cur hg a m c news hl hnews h1 hroom hfit
    have htk : xs.take (k * i.size) = cur.toList.take (k * i.size) := by rw [← ht', List.take_take, Nat.min_eq_left (Nat.mul_le_mul_right _ hk)]
    refine ⟨_, hr, ⟨?_, .inr ⟨g, cap, _, rfl, hb, setRow_heap w g cur _ e _ hg, hroom, hcm, ?_, ?_⟩⟩, ⟨rfl, rfl, rfl, by simp, fun q _ hq => setRow_other w g q _ hq⟩⟩
    · rw [htk, List.length_append, List.length_take, hl, Array.length_toList, Nat.add_mul]
      have : k * i.size ≤ cur.size := by omega
      omega
    · simp only [List.size_toArray, List.length_append, List.length_take, List.length_drop, Array.length_toList]
      omega
    · rw [htk]
      have e1 : ((cur.toList.take (k * i.size) ++ news ++ cur.toList.drop (k * i.size + news.length)).toArray).toList = (cur.toList.take (k * i.size) ++ news) ++ cur.toList.drop (k * i.size + news.length) := by simp
      rw [e1]
      have e2 : (k + m) * i.size = (cur.toList.take (k * i.size) ++ news).length := by
        rw [List.length_append, List.length_take, hl, Array.length_toList, Nat.add_mul]
        have : k * i.size ≤ cur.size := by omega
        omega
      rw [e2]
      exact List.take_left
/-- 'clear(s[k:k+1])' behind the row's end. -/
theorem run_clear_own (w : World) (base : Nat) (t e ty : TypeId) (z : Value) (size : Nat) (ht : P.underlying t = some (.slice e)) (hv : ∀ w, (zeroValue e).run P w = .ok z w) (zs : List Value) (hz : (Builtin.zeroCells z.cells 1).toList = zs) (hzl : zs.length = size) (h1 : ∀ u ∈ zs, u.oneCell' = true)
    (g n cap : Nat) (xs : List Value) (hown : w.ownsRow base e size (.slice (some ⟨g, 0, none⟩) n cap) n xs) (hroom : n + 1 ≤ cap) (c : Nat) :
    ∃ w', (Builtin.clear_ #[t] ty #[.slice (some ⟨g, n * size, none⟩) 1 c]).run P w = .ok (.tuple #[]) w' ∧
      w'.ownsRow base e size (.slice (some ⟨g, 0, none⟩) n cap) n xs ∧ Upd (fun q => q = g) w w' := by
  rcases hown.2 with ⟨h', _⟩ | ⟨g', cap', cur, h', hb, hg, hnc, hcm, hcs, ht'⟩
  · cases h'
  · cases h'
    have hlen := hown.1
    have hfit : n * size + 0 + zs.length ≤ cur.size := by rw [hzl, hcs, Nat.add_zero, show n * size + size = (n + 1) * size by rw [Nat.add_mul, Nat.one_mul]]; exact Nat.mul_le_mul_right _ hroom
    have hst := run_storeCells_at P g (n * size) e zs 0 cur w hg hfit h1
    refine ⟨w.setRow g (cur.toList.take (n * size + 0) ++ zs ++ cur.toList.drop (n * size + 0 + zs.length)).toArray, ?_, ⟨hlen, .inr ⟨g, cap, _, rfl, hb, setRow_heap w g cur _ e _ hg, hnc, hcm, ?_, ?_⟩⟩, ⟨rfl, rfl, rfl, by simp, fun q _ hq => setRow_other w g q _ hq⟩⟩
    · have hzc : (Builtin.zeroCells z.cells 1).toList = zs := hz
      simp [Builtin.clear_, run_underlying ht, hv, hzc, hst]
    · simp only [List.size_toArray, List.length_append, List.length_take, List.length_drop, Array.length_toList]
      omega
    · have e1 : ((cur.toList.take (n * size + 0) ++ zs ++ cur.toList.drop (n * size + 0 + zs.length)).toArray).toList = cur.toList.take (n * size) ++ (zs ++ cur.toList.drop (n * size + 0 + zs.length)) := by simp
      rw [e1, ← ht']
      have e3 : ∀ (a r : List Value) (k : Nat), k = a.length → (a ++ r).take k = a := by
        intro a r k hk
        subst hk
        exact List.take_left
      exact e3 _ _ _ (by rw [List.length_take, Array.length_toList]; omega)
/-- An append in a region that draws, by its run. -/
theorem step_append_run {ops : Array Oper} {o : Oper} {a : Act} {K : Act → World → Prop} {Q : Exit → Act → World → Prop} {E : Prop} {w : World} (hgd : o.guard = none) (s x : Operand) (t : TypeId)
    (ho : o.op = .call { callee := .builtin .append, args := #[s, x], argTypes := #[t, t] }) (vs vx v' : Value) (w' : World) (hs : a.eval s = vs) (hx : a.eval x = vx)
    (hrun : (Builtin.append_ #[t, t] o.type #[vs, vx]).run P w = .ok v' w') (hK : K (a.put o.dst v') w') : if Region.wanted o (yielded ops a.tmps) = true then Oper.wp P o a w K Q else E := by
  have hw : Region.wanted o (yielded ops a.tmps) = true := by simp [Region.wanted, hgd]
  rw [if_pos hw]
  unfold Oper.wp execOp
  simp only [ho, resolve, invoke, builtin, Sem.run_bind, Sem.run_pure, Result.andThen_ok, List.map_toArray, List.map_cons, List.map_nil, hs, hx, hrun]
  exact hK
end

theorem eraseIdx_cells (L : List Ms) (i : Nat) : (mcells L).take (i * 3) ++ mcells (L.drop (i + 1)) = mcells (L.eraseIdx i) := by
  rw [mcells_take, ← mcells_append, List.eraseIdx_eq_take_drop_succ]
theorem zeroMs (w : World) : (zeroValue 47).run Try.prog w = .ok (.agg #[.int .i64 0, .int .i64 0, .slice none 0 0]) w := by kernel_rfl

set_option maxHeartbeats 2000000 in
theorem netDelete_any (w : World) (B g c i : Nat) (L : List Ms) (h : w.ownsRow B 47 3 (.slice (some ⟨g, 0, none⟩) L.length c) L.length (mcells L)) (hi : i < L.length) (hn : L.length ≤ 512) :
    Calls Try.prog 46 #[.slice (some ⟨g, 0, none⟩) L.length c, .int .i64 (i : Int), .int .i64 ((i : Int) + 1)] w fun e w' =>
      e = .returned (.slice (some ⟨g, 0, none⟩) (L.length - 1) c) ∧ w'.ownsRow B 47 3 (.slice (some ⟨g, 0, none⟩) (L.length - 1) c) (L.length - 1) (mcells (L.eraseIdx i)) ∧ Upd (fun q => q = g) w w' := by
  obtain ⟨A, c', e, hnc⟩ := own_slice h
  cases e
  have hcm : c ≤ 9223372036854775807 := by
    rcases h.2 with ⟨h', _⟩ | ⟨g', cap', cur, h', hb, hg, hnc', hcm, hcs, ht'⟩
    · cases h'
    · cases h'; exact hcm
  obtain ⟨ti, hti, hts⟩ := Option.map_eq_some_iff.1 infoMs
  obtain ⟨ad, c2, hA, hsrc⟩ : ∃ (ad : Addr) (c2 : Nat), (if c = i + 1 then (some ⟨g, 0, none⟩ : Option Addr) else some ⟨g, (i + 1) * 3, none⟩) = some ad ∧ (∀ j u, (mcells (L.drop (i + 1)))[j]? = some u → w.drew.cell? (ad.add j) = some u) := by
    by_cases hc : c = i + 1
    · refine ⟨⟨g, 0, none⟩, 0, by rw [if_pos hc], fun j u hj => ?_⟩
      rw [List.drop_of_length_le (by omega)] at hj
      simp [mcells] at hj
    · refine ⟨⟨g, (i + 1) * 3, none⟩, 0, by rw [if_neg hc], fun j u hj => ?_⟩
      rw [add_off]
      have h2 : (mcells L)[(i + 1) * 3 + j]? = some u := by rw [← mcells_drop, List.getElem?_drop] at hj; exact hj
      have h3 := h.cells (g := g) rfl ((i + 1) * 3 + j) u h2
      rw [add_plain] at h3
      exact h3
  obtain ⟨W1, hrun, hO1, hU1⟩ := run_append_own (P := Try.prog) w.drew B 44 44 47 ti 3 Try.underlying44 hti hts g L.length i c (mcells L) h (by omega) ad (L.length - (i + 1)) (c - (i + 1)) (mcells (L.drop (i + 1))) (by rw [mcells_length, List.length_drop]) hsrc (mcells_one _) (by omega)
  rw [eraseIdx_cells, show i + (L.length - (i + 1)) = L.length - 1 by omega] at hO1
  rw [show i + (L.length - (i + 1)) = L.length - 1 by omega] at hrun
  obtain ⟨W2, hcl, hO2, hU2⟩ := run_clear_own (P := Try.prog) W1 B 44 47 0 (.agg #[.int .i64 0, .int .i64 0, .slice none 0 0]) 3 Try.underlying44 zeroMs [.int .i64 0, .int .i64 0, .slice none 0 0] (by kernel_rfl) rfl (by simp [Value.oneCell']) g (L.length - 1) c _ hO1 (by omega) (c - (L.length - 1))
  have HO := Lib.hid hO2
  have HU := Lib.hid ((show Upd (fun q => q = g) w W1 from ⟨hU1.os, hU1.tape, hU1.output, hU1.size, hU1.block⟩).trans hU2 (fun _ _ h => h))
  clear hO1 hU1 hO2 hU2 hsrc h
  generalize L.length = n at *
  have hi1 : (i : Int) + 1 ≤ (n : Int) := by omega
  have hi0 : (0 : Int) ≤ (i : Int) + 1 := by omega
  have hnc' : (n : Int) ≤ (c : Int) := by omega
  have hic : (i : Int) ≤ (c : Int) := by omega
  have hn1 : ((n - 1 : Nat) : Int) = (n : Int) - 1 := by omega
  have HRUN := Lib.hid hrun
  have HCL := Lib.hid hcl
  clear hrun hcl
  go_enter Try.func46, Try.ntmps46
  go_wp2_with fail
  go_region_law (refine step_append_run rfl (.tmp 22) (.tmp 25) 44 rfl _ _ _ W1 (by simp [Act.eval, Act.put]) (by simp [Act.eval, Act.put]) HRUN.out ?_)
  have hcl := HCL.out
  have hq : n - (n - 1) = 1 := by omega
  have hq0 : (0 : Int) ≤ ((n - 1 : Nat) : Int) := by omega
  have hq1 : ((n - 1 : Nat) : Int) ≤ (n : Int) := by omega
  have hq2 : n - 1 ≤ n := by omega
  have hq3 : ¬ c = n - 1 := by omega
  go_wp2_with (simp only [hcl])
  go_ret
  exact ⟨rfl, HO.out, HU.out⟩

end Go.Proofs.Ytkpkimhpecbkoaa
