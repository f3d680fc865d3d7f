/-
  The texts Num20 of this proof in one (what is used of them): what each proves is said at its head. No conditions beyond those that each theorem says.
-/
import Derived.Test.YtjakhemolecbnaaNL3
import Derived.Test.YtjakhemolecbnaaNH

/-
  Claims of any records of moderate size, as they lie in memory.
-/
section
set_option linter.unusedVariables false
set_option linter.unusedSimpArgs false
namespace Go.Proofs.Ytjakhemolecbnaa
open Go.RowKit

theorem enc_len_any (rs : List Rp) (hl : rs.length ≤ 1000) (h : ∀ r ∈ rs, r.tx.length ≤ 1000 ∧ r.groups.length ≤ 1000 ∧ r.body.length ≤ 1000) : 4 ≤ (encR rs).length ∧ (encR rs).length ≤ 4100000 := by
  have h2 := encL_len (mkOf (rs.map txtOf)) (fun x hx => ⟨by
    have h2 : x.1 ∈ (mkOf (rs.map txtOf)).map (·.1) := List.mem_map.2 ⟨x, hx, rfl⟩
    rw [mkOf_map] at h2
    obtain ⟨r, hr, e⟩ := List.mem_map.1 h2
    rw [← e, txtOf_length]
    have := h r hr
    omega, mkOf_heads _ x hx⟩)
  rw [mkOf_length, List.length_map] at h2
  unfold encR encOf
  rw [List.length_append, be4n_length]
  omega
/-- A claim that lies in memory. -/
structure BtAt (w : World) (x : Cl) : Prop where
  rb : RB w x.A x.l
  nil : x.A = none → x.c = 0
  le : x.l.length ≤ 17000000
theorem BtAt.below {w w' : World} {x : Cl} (h : BtAt w x) (hb : Below w.heap.size w w') : BtAt w' x := ⟨h.rb.below hb, h.nil, h.le⟩
theorem claim_b (gr : Int) (A : Option Addr) (n c : Nat) (ms : List Rm) (w : World) (hl : ms.length = n) (hn : n ≤ 1000) (hr : RmAt w A ms) :
    Calls Try.prog 9 #[.int .i64 gr, .slice A n c] w fun e w' => ∃ (x : Cl) (g : Nat), e = .returned (.agg #[.int .i64 x.g, .slice x.A x.l.length x.c]) ∧ x.A = some ⟨g, 0, none⟩ ∧ 4 ≤ x.l.length ∧ x.l.length ≤ 4100000 ∧ w'.ownsRow w.heap.size 5 1 (.slice x.A x.l.length x.c) x.l.length (bv x.l) ∧ BtAt w' x ∧ Below w.heap.size w w' := by
  subst hl
  have hlen := enc_len_any (ms.map Rm.p) (by rw [List.length_map]; exact hn) (fun r hr2 => by
    obtain ⟨m, hm, rfl⟩ := List.mem_map.1 hr2
    exact ⟨(hr.g m hm).2.1, (hr.g m hm).2.2.1, (hr.g m hm).2.2.2⟩)
  refine (claim_any gr A ms.length c ms w rfl hn hr).mono ?_
  rintro e w' ⟨A', c', rfl, hown, hb⟩
  have hg : ∃ g, A' = some ⟨g, 0, none⟩ := by
    rcases hown.2 with ⟨h, h2⟩ | ⟨g, cap, cur, h, _⟩
    · omega
    · exact ⟨g, by cases h; rfl⟩
  obtain ⟨g, hg⟩ := hg
  exact ⟨⟨gr, A', c', encR (ms.map Rm.p)⟩, g, rfl, hg, hlen.1, hlen.2, hown, ⟨(own_RC hown).bytes, own_nil hown, Nat.le_trans hlen.2 (by decide)⟩, hb⟩

/-- Rows of claims, some of them. -/
def RowsAt (w : World) (g k : Nat) : Prop := ∀ j : Nat, j < k → ∃ (A : Option Addr) (c : Nat) (L : List Cl), L.length ≤ 10 ∧ w.cell? ⟨g, j, none⟩ = some (.slice A L.length c) ∧ ClsAt w A L
theorem RowsAt.below {w w' : World} {g k : Nat} (h : RowsAt w g k) (hb : Below w.heap.size w w') : RowsAt w' g k := fun j hj => by
  obtain ⟨A, c, L, h1, h2, h3⟩ := h j hj
  exact ⟨A, c, L, h1, cell_below hb h2, h3.below hb⟩
def RecOK (w : World) (m : Rm) : Prop := RG w m.A m.groups ∧ m.tx.length ≤ 1000 ∧ m.groups.length ≤ 1000 ∧ m.body.length ≤ 1000
def PR (v : Value) (W : World) : Prop := ∃ m : Rm, v = .agg m.cells.toArray ∧ RecOK W m
def PS (k : Nat) (v : Value) (W : World) : Prop := ∃ (g : Nat) (ms : List Rm), v = .slice (some ⟨g, 0, none⟩) k k ∧ ms.length = k ∧ RmAt W (some ⟨g, 0, none⟩) ms
def PC (v : Value) (W : World) : Prop := ∃ x : Cl, v = .agg #[.int .i64 x.g, .slice x.A x.l.length x.c] ∧ BtAt W x
def PL (k : Nat) (v : Value) (W : World) : Prop := ∃ (g : Nat) (L : List Cl), v = .slice (some ⟨g, 0, none⟩) k k ∧ L.length = k ∧ ClsAt W (some ⟨g, 0, none⟩) L
def PI (v : Value) (W : World) : Prop := ∃ g : Nat, v = .slice (some ⟨g, 0, none⟩) 2 2 ∧ RG W (some ⟨g, 0, none⟩) [1, 0]
def P15 (v : Value) (W : World) : Prop := ∃ g : Nat, v = .slice (some ⟨g, 0, none⟩) 15 15 ∧ RowsAt W g 15
variable {v : Value} {k : Nat} {W W' : World}
theorem PR.below (h : PR v W) (hb : Below W.heap.size W W') : PR v W' := by
  obtain ⟨m, h1, h2, h3⟩ := h
  exact ⟨m, h1, h2.below hb, h3⟩
theorem PS.below (h : PS k v W) (hb : Below W.heap.size W W') : PS k v W' := by
  obtain ⟨g, ms, h1, h2, h3⟩ := h
  exact ⟨g, ms, h1, h2, h3.below hb⟩
theorem PC.below (h : PC v W) (hb : Below W.heap.size W W') : PC v W' := by
  obtain ⟨x, h1, h2⟩ := h
  exact ⟨x, h1, h2.below hb⟩
theorem PL.below (h : PL k v W) (hb : Below W.heap.size W W') : PL k v W' := by
  obtain ⟨g, L, h1, h2, h3⟩ := h
  exact ⟨g, L, h1, h2, h3.below hb⟩
theorem PI.below (h : PI v W) (hb : Below W.heap.size W W') : PI v W' := by
  obtain ⟨g, h1, h2⟩ := h
  exact ⟨g, h1, h2.below hb⟩
theorem P15.below (h : P15 v W) (hb : Below W.heap.size W W') : P15 v W' := by
  obtain ⟨g, h1, h2⟩ := h
  exact ⟨g, h1, h2.below hb⟩
theorem builtR1 (m : Rm) : Try.prog.builtSlice 24 1 [(0, .agg m.cells.toArray)] = some (rmc [m]).toArray := by
  obtain ⟨k, t, A, c, g, b⟩ := m
  unfold rmc Rm.cells
  dsimp only
  generalize strB t = z1
  generalize strB b = z2
  generalize g.length = n
  kernel_rfl
theorem builtR2 (m m2 : Rm) : Try.prog.builtSlice 24 2 [(0, .agg m.cells.toArray), (1, .agg m2.cells.toArray)] = some (rmc [m, m2]).toArray := by
  obtain ⟨k, t, A, c, g, b⟩ := m
  obtain ⟨k', t', A', c', g', b'⟩ := m2
  unfold rmc Rm.cells
  dsimp only
  generalize strB t = z1
  generalize strB b = z2
  generalize g.length = n
  generalize strB t' = z1'
  generalize strB b' = z2'
  generalize g'.length = n'
  kernel_rfl
theorem builtR3 (m m2 m3 : Rm) : Try.prog.builtSlice 24 3 [(0, .agg m.cells.toArray), (1, .agg m2.cells.toArray), (2, .agg m3.cells.toArray)] = some (rmc [m, m2, m3]).toArray := by
  obtain ⟨k, t, A, c, g, b⟩ := m
  obtain ⟨k', t', A', c', g', b'⟩ := m2
  obtain ⟨k3, t3, A3, c3, g3, b3⟩ := m3
  unfold rmc Rm.cells
  dsimp only
  generalize strB t = z1
  generalize strB b = z2
  generalize g.length = n
  generalize strB t' = z1'
  generalize strB b' = z2'
  generalize g'.length = n'
  generalize strB t3 = z13
  generalize strB b3 = z23
  generalize g3.length = n3
  kernel_rfl
theorem builtC1 (x : Cl) : Try.prog.builtSlice 27 1 [(0, .agg #[.int .i64 x.g, .slice x.A x.l.length x.c])] = some (clc [x]).toArray := by
  obtain ⟨g, A, c, l⟩ := x
  unfold clc Cl.cells
  dsimp only
  generalize l.length = n
  kernel_rfl
theorem builtC2 (x y : Cl) : Try.prog.builtSlice 27 2 [(0, .agg #[.int .i64 x.g, .slice x.A x.l.length x.c]), (1, .agg #[.int .i64 y.g, .slice y.A y.l.length y.c])] = some (clc [x, y]).toArray := by
  obtain ⟨g, A, c, l⟩ := x
  obtain ⟨g', A', c', l'⟩ := y
  unfold clc Cl.cells
  dsimp only
  generalize l.length = n
  generalize l'.length = n'
  kernel_rfl
theorem builtC3 (x y z : Cl) : Try.prog.builtSlice 27 3 [(0, .agg #[.int .i64 x.g, .slice x.A x.l.length x.c]), (1, .agg #[.int .i64 y.g, .slice y.A y.l.length y.c]), (2, .agg #[.int .i64 z.g, .slice z.A z.l.length z.c])] = some (clc [x, y, z]).toArray := by
  obtain ⟨g, A, c, l⟩ := x
  obtain ⟨g', A', c', l'⟩ := y
  obtain ⟨g3, A3, c3, l3⟩ := z
  unfold clc Cl.cells
  dsimp only
  generalize l.length = n
  generalize l'.length = n'
  generalize l3.length = n3
  kernel_rfl
/-- A row of records that is made: what it is in memory. -/
theorem PS.mk_ {ms : List Rm} (hk : ms.length = k) (h : ∀ m ∈ ms, RecOK W m) : PS k (.slice (some ⟨W.heap.size, 0, none⟩) k k) (W.alloc (.cells (rmc ms).toArray 24)) :=
  ⟨W.heap.size, ms, rfl, hk, RC_newL W (rmc ms) _, fun m hm => ⟨(h m hm).1.below ((Below.refl _ _).alloc (Nat.le_refl _) _), (h m hm).2⟩⟩
theorem PL.mk_ {L : List Cl} (hk : L.length = k) (h : ∀ x ∈ L, BtAt W x) : PL k (.slice (some ⟨W.heap.size, 0, none⟩) k k) (W.alloc (.cells (clc L).toArray 27)) :=
  ⟨W.heap.size, L, rfl, hk, RC_newL W (clc L) _, fun x hx => ⟨(h x hx).rb.below ((Below.refl _ _).alloc (Nat.le_refl _) _), (h x hx).nil, (h x hx).le⟩⟩
end Go.Proofs.Ytjakhemolecbnaa
end
