/-
  The texts AuditNumbers of this proof in one (what is used of them): what each proves is said at its head. No conditions beyond those that each theorem says.
-/
import Derived.Deep.CutBlock
import Derived.Test.YtjakhemolecbnaaNL5

/-
  The law AuditNumbers: chapter 20's runs, and one for each rule.
-/
section
set_option linter.unusedVariables false
set_option linter.unusedSimpArgs false
namespace Go.Proofs.Ytjakhemolecbnaa
open Go.RowKit

theorem chain8 (w : World) (o1 o2 o3 o4 o5 o6 o7 o8 : Obj) (W : World) (hW : W = ((((((((w.alloc o1).alloc o2).alloc o3).alloc o4).alloc o5).alloc o6).alloc o7).alloc o8)) :
    W.heap[w.heap.size]? = some o1 ∧ W.heap[w.heap.size + 1]? = some o2 ∧ W.heap[w.heap.size + 2]? = some o3 ∧ W.heap[w.heap.size + 3]? = some o4 ∧ W.heap[w.heap.size + 4]? = some o5 ∧ W.heap[w.heap.size + 5]? = some o6 ∧ W.heap[w.heap.size + 6]? = some o7 ∧ W.heap[w.heap.size + 7]? = some o8 ∧ W.heap.size = w.heap.size + 8 ∧ Below w.heap.size w W := by
  have h1 := heap_next (w := w) (W := w) (n := 0) rfl o1
  have h2 := heap_next h1.2 o2
  have h3 := heap_next h2.2 o3
  have h4 := heap_next h3.2 o4
  have h5 := heap_next h4.2 o5
  have h6 := heap_next h5.2 o6
  have h7 := heap_next h6.2 o7
  have h8 := heap_next h7.2 o8
  have b1 : Below w.heap.size w (w.alloc o1) := (Below.refl _ _).alloc (Nat.le_refl _) _
  have b2 := b1.alloc b1.size o2
  have b3 := b2.alloc b2.size o3
  have b4 := b3.alloc b3.size o4
  have b5 := b4.alloc b4.size o5
  have b6 := b5.alloc b5.size o6
  have b7 := b6.alloc b6.size o7
  have b8 := b7.alloc b7.size o8
  subst hW
  have k : ∀ {V : World} {j : Nat} {x : Obj} (o : Obj), V.heap[j]? = some x → (V.alloc o).heap[j]? = some x := fun o h => (Below.heap_alloc _ _ _ (Array.getElem?_eq_some_iff.1 h).1).trans h
  exact ⟨k _ (k _ (k _ (k _ (k _ (k _ (k _ h1.1)))))), k _ (k _ (k _ (k _ (k _ (k _ h2.1))))), k _ (k _ (k _ (k _ (k _ h3.1)))), k _ (k _ (k _ (k _ h4.1))), k _ (k _ (k _ h5.1)), k _ (k _ h6.1), k _ h7.1, h8.1, h8.2, b8⟩

theorem gdA {a : Act} {t : Nat} {v : Value} (e : a.eval (.tmp t) = v) : a.tmps[t]?.getD undef = v := (Array.getD_eq_getD_getElem? ..).symm.trans e
theorem abA (w : World) (o : Obj) : Below w.heap.size w (w.alloc o) := (Below.refl _ _).alloc (Nat.le_refl _) _
theorem bbA {w w1 w2 : World} (h : Below w.heap.size w w1) (hb : Below w1.heap.size w1 w2) : Below w.heap.size w w2 := below_below h h.size hb
theorem all1 {α : Type} {p : α → Prop} {a : α} (h : p a) : ∀ x ∈ [a], p x := by simpa using h
theorem all2 {α : Type} {p : α → Prop} {a b : α} (h : p a) (k : p b) : ∀ x ∈ [a, b], p x := by simpa using ⟨h, k⟩
theorem all3 {α : Type} {p : α → Prop} {a b c : α} (h : p a) (k : p b) (l : p c) : ∀ x ∈ [a, b, c], p x := by simpa using ⟨h, k, l⟩

set_option maxRecDepth 100000 in
set_option maxHeartbeats 16000000 in
theorem auditNumbers_any (w : World) :
    Calls Try.prog 3 #[] w fun e w' => e = .returned (.bool true) ∧ Below w.heap.size w w' := by
  go_enter Try.func3, Try.ntmps3
  go_upto_region 6 with fail
  generalize hW : (World.alloc (World.alloc (World.alloc (World.alloc (World.alloc (World.alloc (World.alloc (World.alloc w _) _) _) _) _) _) _) _) = w8
  obtain ⟨x1, x2, x3, x4, x5, x6', x7, x8, xs, xb⟩ := chain8 w _ _ _ _ _ _ _ _ w8 hW.symm
  obtain ⟨g5, hg5⟩ : ∃ g, g = w.heap.size + 1 + 1 + 1 + 1 + 1 + 1 + 1 := ⟨_, rfl⟩
  obtain ⟨g4, hg4⟩ : ∃ g, g = w.heap.size + 1 + 1 + 1 + 1 + 1 + 1 := ⟨_, rfl⟩
  obtain ⟨g3, hg3⟩ : ∃ g, g = w.heap.size + 1 + 1 + 1 + 1 + 1 := ⟨_, rfl⟩
  obtain ⟨zc, hzc⟩ : ∃ g, g = w.heap.size + 1 + 1 + 1 + 1 := ⟨_, rfl⟩
  obtain ⟨g2, hg2⟩ : ∃ g, g = w.heap.size + 1 + 1 + 1 := ⟨_, rfl⟩
  obtain ⟨zb, hzb⟩ : ∃ g, g = w.heap.size + 1 + 1 := ⟨_, rfl⟩
  obtain ⟨g1, hg1⟩ : ∃ g, g = w.heap.size + 1 := ⟨_, rfl⟩
  obtain ⟨za, hza⟩ : ∃ g, g = w.heap.size := ⟨_, rfl⟩
  have y1 : w8.heap[za]? = some (.cells #[.int .i64 0, .int .i64 1] 3 (0, 0)) := by rw [hza]; exact x1
  have y2 : w8.heap[g1]? = some (.cells #[.int .i64 2, .string ⟨#[116]⟩, .slice (some ⟨za, 0, none⟩) 2 2, .string ⟨#[]⟩] 24 (0, 0)) := by rw [hg1, hza]; exact x2
  have y3 : w8.heap[zb]? = some (.cells #[.int .i64 0, .int .i64 1] 3 (0, 0)) := by rw [hzb]; exact x3
  have y4 : w8.heap[g2]? = some (.cells #[.int .i64 3, .string ⟨#[116]⟩, .slice (some ⟨zb, 0, none⟩) 2 2, .string ⟨#[]⟩] 24 (0, 0)) := by rw [hg2, hzb]; exact x4
  have y5 : w8.heap[zc]? = some (.cells #[.int .i64 1] 3 (0, 0)) := by rw [hzc]; exact x5
  have y6 : w8.heap[g3]? = some (.cells #[.int .i64 3, .string ⟨#[116]⟩, .slice (some ⟨zc, 0, none⟩) 1 1, .string ⟨#[]⟩] 24 (0, 0)) := by rw [hg3, hzc]; exact x6'
  have y7 : w8.heap[g4]? = some (.cells #[.int .i64 4, .string ⟨#[116]⟩, .slice none 0 0, .string ⟨#[]⟩] 24 (0, 0)) := by rw [hg4]; exact x7
  have y8 : w8.heap[g5]? = some (.cells #[.int .i64 1, .string ⟨#[]⟩, .slice none 0 0, .string ⟨#[120]⟩] 24 (0, 0)) := by rw [hg5]; exact x8
  rw [← hg5, ← hg4, ← hg3, ← hzc, ← hg2, ← hzb, ← hg1, ← hza]
  have XB := Lib.hid xb
  have KN1 := Lib.hid (show ∀ W, Below w8.heap.size w8 W → (W.cell? ⟨g1, 0, none⟩ = some (.int .i64 2) ∧ W.cell? ⟨g1, 1, none⟩ = some (.string ⟨#[116]⟩) ∧ W.cell? ⟨g1, 2, none⟩ = some (.slice (some ⟨za, 0, none⟩) 2 2) ∧ W.cell? ⟨g1, 3, none⟩ = some (.string ⟨#[]⟩)) ∧ RecOK W ⟨2, [116], some ⟨za, 0, none⟩, 2, [0, 1], []⟩ from fun W hW => ⟨⟨cell_below hW ((cell_of_row w8 g1 0 _ _ _ y2).trans rfl), cell_below hW ((cell_of_row w8 g1 1 _ _ _ y2).trans rfl), cell_below hW ((cell_of_row w8 g1 2 _ _ _ y2).trans rfl), cell_below hW ((cell_of_row w8 g1 3 _ _ _ y2).trans rfl)⟩, RG.below (RG_row (W := w8) (g := za) [0, 1] 3 y1) hW, by simp, by simp, by simp⟩)
  have KN2 := Lib.hid (show ∀ W, Below w8.heap.size w8 W → (W.cell? ⟨g2, 0, none⟩ = some (.int .i64 3) ∧ W.cell? ⟨g2, 1, none⟩ = some (.string ⟨#[116]⟩) ∧ W.cell? ⟨g2, 2, none⟩ = some (.slice (some ⟨zb, 0, none⟩) 2 2) ∧ W.cell? ⟨g2, 3, none⟩ = some (.string ⟨#[]⟩)) ∧ RecOK W ⟨3, [116], some ⟨zb, 0, none⟩, 2, [0, 1], []⟩ from fun W hW => ⟨⟨cell_below hW ((cell_of_row w8 g2 0 _ _ _ y4).trans rfl), cell_below hW ((cell_of_row w8 g2 1 _ _ _ y4).trans rfl), cell_below hW ((cell_of_row w8 g2 2 _ _ _ y4).trans rfl), cell_below hW ((cell_of_row w8 g2 3 _ _ _ y4).trans rfl)⟩, RG.below (RG_row (W := w8) (g := zb) [0, 1] 3 y3) hW, by simp, by simp, by simp⟩)
  have KN3 := Lib.hid (show ∀ W, Below w8.heap.size w8 W → (W.cell? ⟨g3, 0, none⟩ = some (.int .i64 3) ∧ W.cell? ⟨g3, 1, none⟩ = some (.string ⟨#[116]⟩) ∧ W.cell? ⟨g3, 2, none⟩ = some (.slice (some ⟨zc, 0, none⟩) 1 1) ∧ W.cell? ⟨g3, 3, none⟩ = some (.string ⟨#[]⟩)) ∧ RecOK W ⟨3, [116], some ⟨zc, 0, none⟩, 1, [1], []⟩ from fun W hW => ⟨⟨cell_below hW ((cell_of_row w8 g3 0 _ _ _ y6).trans rfl), cell_below hW ((cell_of_row w8 g3 1 _ _ _ y6).trans rfl), cell_below hW ((cell_of_row w8 g3 2 _ _ _ y6).trans rfl), cell_below hW ((cell_of_row w8 g3 3 _ _ _ y6).trans rfl)⟩, RG.below (RG_row (W := w8) (g := zc) [1] 3 y5) hW, by simp, by simp, by simp⟩)
  have KN4 := Lib.hid (show ∀ W, Below w8.heap.size w8 W → (W.cell? ⟨g4, 0, none⟩ = some (.int .i64 4) ∧ W.cell? ⟨g4, 1, none⟩ = some (.string ⟨#[116]⟩) ∧ W.cell? ⟨g4, 2, none⟩ = some (.slice none 0 0) ∧ W.cell? ⟨g4, 3, none⟩ = some (.string ⟨#[]⟩)) ∧ RecOK W ⟨4, [116], none, 0, [], []⟩ from fun W hW => ⟨⟨cell_below hW ((cell_of_row w8 g4 0 _ _ _ y7).trans rfl), cell_below hW ((cell_of_row w8 g4 1 _ _ _ y7).trans rfl), cell_below hW ((cell_of_row w8 g4 2 _ _ _ y7).trans rfl), cell_below hW ((cell_of_row w8 g4 3 _ _ _ y7).trans rfl)⟩, (fun h0 => absurd h0 (by simp)), by simp, by simp, by simp⟩)
  have KN5 := Lib.hid (show ∀ W, Below w8.heap.size w8 W → (W.cell? ⟨g5, 0, none⟩ = some (.int .i64 1) ∧ W.cell? ⟨g5, 1, none⟩ = some (.string ⟨#[]⟩) ∧ W.cell? ⟨g5, 2, none⟩ = some (.slice none 0 0) ∧ W.cell? ⟨g5, 3, none⟩ = some (.string ⟨#[120]⟩)) ∧ RecOK W ⟨1, [], none, 0, [], [120]⟩ from fun W hW => ⟨⟨cell_below hW ((cell_of_row w8 g5 0 _ _ _ y8).trans rfl), cell_below hW ((cell_of_row w8 g5 1 _ _ _ y8).trans rfl), cell_below hW ((cell_of_row w8 g5 2 _ _ _ y8).trans rfl), cell_below hW ((cell_of_row w8 g5 3 _ _ _ y8).trans rfl)⟩, (fun h0 => absurd h0 (by simp)), by simp, by simp, by simp⟩)
  clear x1 x2 x3 x4 x5 x6' x7 x8 xs xb y1 y2 y3 y4 y5 y6 y7 y8 hW hg5 hg4 hg3 hzc hg2 hzb hg1 hza
  obtain ⟨⟨a0, a1, a2, a3⟩, oka⟩ := KN1.out w8 (Below.refl _ _)
  obtain ⟨⟨b0, b1, b2, b3⟩, okb⟩ := KN2.out w8 (Below.refl _ _)
  have hRm : RmAt (w8.alloc (.cells #[.int .i64 2, .string ⟨#[116]⟩, .slice (some ⟨za, 0, none⟩) 2 2, .string ⟨#[]⟩, .int .i64 3, .string ⟨#[116]⟩, .slice (some ⟨zb, 0, none⟩) 2 2, .string ⟨#[]⟩] 24)) (some ⟨w8.heap.size, 0, none⟩) [⟨2, [116], some ⟨za, 0, none⟩, 2, [0, 1], []⟩, ⟨3, [116], some ⟨zb, 0, none⟩, 2, [0, 1], []⟩] := by
    have hb : Below w8.heap.size w8 (w8.alloc (.cells #[.int .i64 2, .string ⟨#[116]⟩, .slice (some ⟨za, 0, none⟩) 2 2, .string ⟨#[]⟩, .int .i64 3, .string ⟨#[116]⟩, .slice (some ⟨zb, 0, none⟩) 2 2, .string ⟨#[]⟩] 24)) := (Below.refl _ _).alloc (Nat.le_refl _) _
    refine ⟨RC_newL w8 [.int .i64 2, .string ⟨#[116]⟩, .slice (some ⟨za, 0, none⟩) 2 2, .string ⟨#[]⟩, .int .i64 3, .string ⟨#[116]⟩, .slice (some ⟨zb, 0, none⟩) 2 2, .string ⟨#[]⟩] _, fun m hm => ?_⟩
    simp only [List.mem_cons, List.not_mem_nil, or_false] at hm
    rcases hm with rfl | rfl
    · exact ⟨oka.1.below hb, oka.2⟩
    · exact ⟨okb.1.below hb, okb.2⟩
  have HRM := Lib.hid hRm
  have B89 := Lib.hid (show Below w8.heap.size w8 (w8.alloc (.cells #[.int .i64 2, .string ⟨#[116]⟩, .slice (some ⟨za, 0, none⟩) 2 2, .string ⟨#[]⟩, .int .i64 3, .string ⟨#[116]⟩, .slice (some ⟨zb, 0, none⟩) 2 2, .string ⟨#[]⟩] 24)) from (Below.refl _ _).alloc (Nat.le_refl _) _)
  clear hRm oka okb
  go_wp2_with fail
  refine (claim_b 0 _ 2 2 _ _ rfl (by decide) HRM.out).mono ?_
  rintro e w10 ⟨⟨xg, xA, xc, xl⟩, ga, rfl, hxA, hlo, hhi, hown, hbt, hb⟩
  dsimp only at hxA hlo hhi hown hbt ⊢
  subst hxA
  have B810 := Lib.hid (below_below B89.out B89.out.size hb)
  obtain ⟨n1, hn1⟩ : ∃ n1, xl.length = n1 + 1 := ⟨xl.length - 1, by omega⟩
  have b11 : Below w10.heap.size w10 (w10.alloc (.cells #[.int .i64 xg, .slice (some ⟨ga, 0, none⟩) xl.length xc] 27)) := (Below.refl _ _).alloc (Nat.le_refl _) _
  have hx11 := heap_alloc_new w10 (.cells #[.int .i64 xg, .slice (some ⟨ga, 0, none⟩) xl.length xc] 27)
  obtain ⟨w11, hw11⟩ : ∃ w11, w11 = w10.alloc (.cells #[.int .i64 xg, .slice (some ⟨ga, 0, none⟩) xl.length xc] 27) := ⟨_, rfl⟩
  rw [← hw11] at b11 hx11
  obtain ⟨g6, hg6⟩ : ∃ g6, g6 = w10.heap.size := ⟨_, rfl⟩
  rw [← hg6] at hx11
  have own11 := own_below hown b11
  have hin : n1 < xl.length := by omega
  have cb : w11.cell? ⟨ga, n1, none⟩ = some (.int .u8 (un8 xl[n1])) := by
    obtain ⟨b', o', e, hh⟩ := (own_RC own11).part (by rw [bv_length]; omega)
    cases e
    have h := hh n1 (.int .u8 (un8 xl[n1])) (by unfold bv; rw [List.getElem?_map, List.getElem?_eq_getElem hin]; rfl)
    rwa [Nat.zero_add] at h
  have hxor : bits .xor .u8 (un8 xl[n1]) 1 = un8 (xl[n1] ^^^ 1) := xor8 xl[n1] 1
  obtain ⟨yb, hyb⟩ : ∃ yb, yb = xl[n1] ^^^ 1 := ⟨_, rfl⟩
  rw [← hyb] at hxor
  have ows := (own11.stored n1 (.int .u8 (un8 yb))).1
  have ofr := own11.frozenAt n1
  obtain ⟨w7, hw7⟩ : ∃ w7, w7 = w11.setCell ⟨ga, n1, none⟩ (.int .u8 (un8 yb)) := ⟨_, rfl⟩
  rw [← hw7] at ows
  have u7 : Upd (fun k => k = ga) w11 w7 := by rw [hw7]; exact (Upd.refl (fun k => k = ga) w11).setCell (p := ⟨ga, n1, none⟩) (fun _ => rfl) _
  have hga := World.ownsRow.lt hown ga rfl
  have B87 := Lib.hid (show Below w8.heap.size w8 w7 from below_upd (below_below B810.out B810.out.size b11) (by have := B810.out.size; have := b11.size; omega) u7 (fun k hk => by have := B89.out.size; omega))
  obtain ⟨x6, hx6⟩ : ∃ x6, x6 = (⟨xg, some ⟨ga, 0, none⟩, xc, xl.set n1 yb⟩ : Cl) := ⟨_, rfl⟩
  have hbv : (bv xl).set n1 (.int .u8 (un8 yb)) = bv (xl.set n1 yb) := by unfold bv; rw [List.map_set]; rfl
  have K6 := Lib.hid (show ∀ W, Below w7.heap.size w7 W → (W.cell? ⟨g6, 0, none⟩ = some (.int .i64 x6.g) ∧ W.cell? ⟨g6, 1, none⟩ = some (.slice x6.A x6.l.length x6.c)) ∧ BtAt W x6 from fun W hW => by
    have h7 : w7.heap[g6]? = some (.cells #[.int .i64 xg, .slice (some ⟨ga, 0, none⟩) xl.length xc] 27 (0, 0)) := (u7.block g6 (Array.getElem?_eq_some_iff.1 hx11).1 (by omega)).trans hx11
    rw [hx6]
    dsimp only
    rw [List.length_set]
    refine ⟨⟨cell_below hW ((cell_of_row w7 g6 0 _ _ _ h7).trans rfl), cell_below hW ((cell_of_row w7 g6 1 _ _ _ h7).trans rfl)⟩, BtAt.below ⟨?_, (fun h => by cases h), by show (xl.set n1 yb).length ≤ _; rw [List.length_set]; omega⟩ hW⟩
    rw [hbv] at ows
    exact (own_RC ows).bytes)
  have d6 : w11.cell? ⟨g6, 1, none⟩ = some (.slice (some ⟨ga, 0, none⟩) (n1 + 1) xc) := by
    have h := (cell_of_row w11 g6 1 _ _ _ hx11).trans rfl
    rw [← hn1]
    exact h
  have hn1b : (n1 : Int) ≤ 4100000 := by omega
  have hn10 : (0 : Int) ≤ (n1 : Int) := by omega
  have hn11 : (n1 : Int) < ((n1 + 1 : Nat) : Int) := by omega
  have HW11 := Lib.hid hw11
  have HG6 := Lib.hid hg6
  have HW7 := Lib.hid hw7
  have KM1 := Lib.hid (fun W (hW : Below w7.heap.size w7 W) => KN1.out W (below_below B87.out B87.out.size hW))
  have KM2 := Lib.hid (fun W (hW : Below w7.heap.size w7 W) => KN2.out W (below_below B87.out B87.out.size hW))
  have KM3 := Lib.hid (fun W (hW : Below w7.heap.size w7 W) => KN3.out W (below_below B87.out B87.out.size hW))
  have KM4 := Lib.hid (fun W (hW : Below w7.heap.size w7 W) => KN4.out W (below_below B87.out B87.out.size hW))
  have KM5 := Lib.hid (fun W (hW : Below w7.heap.size w7 W) => KN5.out W (below_below B87.out B87.out.size hW))
  generalize un8 xl[n1] = ub at *
  clear hlo hhi hown hbt hb hn1 b11 hx11 hw11 hg6 own11 hin hyb ows hw7 u7 hga hx6 hbv
  go_upto_region 7 with fail
  rw [show w10.alloc (.cells #[.int .i64 xg, .slice (some ⟨ga, 0, none⟩) xl.length xc] 27) = w11 from HW11.out.symm, ← HG6.out]
  clear a0 a1 a2 a3 b0 b1 b2 b3
  go_upto_region 8 with fail
  rw [show w11.setCell ⟨ga, n1, none⟩ (.int .u8 (un8 yb)) = w7 from HW7.out.symm]
  go_cut [129, 130, 131] (fun s129 s130 s131 wx => s130 = .int .i64 15 ∧ s131 = .int .i64 0 ∧ ∃ g : Nat, s129 = .slice (some ⟨g, 0, none⟩) 15 15 ∧ RowsAt wx g 15 ∧ Below w7.heap.size w7 wx)
  case first =>
    refine region_by (fun W => Below w7.heap.size w7 W) phi8 (by kernel_rfl) (by kernel_rfl) (by kernel_rfl) rfl ((Below.refl _ _).drew) ?ok8 ?fin8
    case ok8 =>
      refine ⟨?_, ?_, ?_, ?_, ?_, ?_, ?_, ?_, ?_, ?_, ?_, ?_, ?_, ?_, ?_, ?_, ?_, ?_, ?_, ?_, ?_, ?_, ?_, ?_, ?_, ?_, ?_, ?_, ?_, ?_, ?_, ?_, ?_, ?_, ?_, ?_, ?_, ?_, ?_, ?_, ?_, ?_, ?_, ?_, ?_, ?_, ?_, ?_, ?_, ?_, ?_, ?_, ?_, ?_, ?_, ?_, ?_, ?_, ?_, ?_, ?_, ?_, ?_, ?_, ?_, ?_, ?_, ?_, ?_, ?_, ?_, ?_, ?_, ?_, ?_, ?_, ?_, ?_, ?_, ?_, ?_, ?_, ?_, ?_, ?_, ?_, ?_, ?_, ?_, ?_, ?_, ?_, ?_, ?_, ?_, ?_, ?_, trivial⟩
      · intro a' w' K hI hd hq hK
        have e6 : a'.eval (.tmp 6) = .pointer (some ⟨g6, 0, none⟩) := (hq 6 (by kernel_rfl)).trans rfl
        clear hd hq
        obtain ⟨⟨c0, c1⟩, ok⟩ := K6.out w' hI
        refine op_value (wanted_free _ _ (by rfl)) (v := .agg #[.int .i64 x6.g, .slice x6.A x6.l.length x6.c]) (w'' := w') ?_ (hK _ _ hI (fun _ _ h => h) (show PC _ _ from ⟨x6, rfl, ok⟩))
        clear hK
        simp only [execOp, e6]
        have f6 := gdA e6
        clear e6 hI ok
        go_simp
      · intro a' w' K hI hd hq hK
        have e35 := hd 0 35 (by kernel_rfl)
        clear hd hq
        obtain ⟨x0, e35', ok0⟩ := (show PC (a'.eval (.tmp 35)) w' from e35)
        have hb := abA w' (.cells (clc [x0]).toArray 27)
        refine op_buildSlice (wanted_free _ _ (by rfl)) 30 27 1 _ rfl Try.underlying30 (clc [x0]).toArray (by simp only [List.map_toArray, List.map_cons, List.map_nil, e35']; exact builtC1 x0) ?_
        exact hK _ _ (bbA hI hb) (phi8_mono hb) (show PL 1 _ _ from PL.mk_ rfl (all1 ok0))
      · intro a' w' K hI hd hq hK
        have e5 : a'.eval (.tmp 5) = .pointer (some ⟨g5, 0, none⟩) := (hq 5 (by kernel_rfl)).trans rfl
        clear hd hq
        obtain ⟨⟨c0, c1, c2, c3⟩, ok⟩ := KM5.out w' hI
        refine op_value (wanted_free _ _ (by rfl)) (v := .agg #[.int .i64 1, .string ⟨#[]⟩, .slice none 0 0, .string ⟨#[120]⟩]) (w'' := w') ?_ (hK _ _ hI (fun _ _ h => h) (show PR _ _ from ⟨⟨1, [], none, 0, [], [120]⟩, rfl, ok⟩))
        clear hK
        simp only [execOp, e5]
        have f5 := gdA e5
        clear e5 hI ok
        go_simp
      · intro a' w' K hI hd hq hK
        clear hd hq
        refine op_value (wanted_free _ _ (by rfl)) (v := .agg #[.int .i64 5, .string ⟨#[116]⟩, .slice none 0 0, .string ⟨#[]⟩]) (w'' := w') ?_ (hK _ _ hI (fun _ _ h => h) (show PR _ _ from ⟨⟨5, [116], none, 0, [], []⟩, rfl, (fun h0 => absurd h0 (by simp)), by simp, by simp, by simp⟩))
        clear hK hI
        simp only [execOp]
        go_simp
      · intro a' w' K hI hd hq hK
        have e37 := hd 2 37 (by kernel_rfl)
        have e38 := hd 3 38 (by kernel_rfl)
        clear hd hq
        obtain ⟨m0, e37', ok0⟩ := (show PR (a'.eval (.tmp 37)) w' from e37)
        obtain ⟨m1, e38', ok1⟩ := (show PR (a'.eval (.tmp 38)) w' from e38)
        have hb := abA w' (.cells (rmc [m0, m1]).toArray 24)
        refine op_buildSlice (wanted_free _ _ (by rfl)) 29 24 2 _ rfl Try.underlying29 (rmc [m0, m1]).toArray (by simp only [List.map_toArray, List.map_cons, List.map_nil, e37', e38']; exact builtR2 m0 m1) ?_
        exact hK _ _ (bbA hI hb) (phi8_mono hb) (show PS 2 _ _ from PS.mk_ rfl (all2 ok0 ok1))
      · intro a' w' K hI hd hq hK
        have e39 := hd 4 39 (by kernel_rfl)
        clear hd hq
        obtain ⟨gS, msS, e39', hlS, hrS⟩ := (show PS 2 (a'.eval (.tmp 39)) w' from e39)
        refine op_call #[.int .i64 0, .slice (some ⟨gS, 0, none⟩) 2 2] (wanted_free _ _ (by rfl)) rfl Try.func9 (by kernel_rfl) rfl (by simp [e39']; rfl) ?_
        refine (claim_b 0 (some ⟨gS, 0, none⟩) 2 2 msS w' hlS (by decide) hrS).mono ?_
        rintro e w6 ⟨x, _, rfl, _, _, _, _, hbt, hb⟩
        exact ⟨_, rfl, hK _ _ (bbA hI hb) (phi8_mono hb) (show PC _ _ from ⟨x, rfl, hbt⟩)⟩
      · intro a' w' K hI hd hq hK
        have e40 := hd 5 40 (by kernel_rfl)
        clear hd hq
        obtain ⟨x0, e40', ok0⟩ := (show PC (a'.eval (.tmp 40)) w' from e40)
        have hb := abA w' (.cells (clc [x0]).toArray 27)
        refine op_buildSlice (wanted_free _ _ (by rfl)) 30 27 1 _ rfl Try.underlying30 (clc [x0]).toArray (by simp only [List.map_toArray, List.map_cons, List.map_nil, e40']; exact builtC1 x0) ?_
        exact hK _ _ (bbA hI hb) (phi8_mono hb) (show PL 1 _ _ from PL.mk_ rfl (all1 ok0))
      · intro a' w' K hI hd hq hK
        clear hd hq
        refine op_value (wanted_free _ _ (by rfl)) (v := .agg #[.int .i64 1, .string ⟨#[116]⟩, .slice none 0 0, .string ⟨#[]⟩]) (w'' := w') ?_ (hK _ _ hI (fun _ _ h => h) (show PR _ _ from ⟨⟨1, [116], none, 0, [], []⟩, rfl, (fun h0 => absurd h0 (by simp)), by simp, by simp, by simp⟩))
        clear hK hI
        simp only [execOp]
        go_simp
      · intro a' w' K hI hd hq hK
        have e42 := hd 7 42 (by kernel_rfl)
        clear hd hq
        obtain ⟨m0, e42', ok0⟩ := (show PR (a'.eval (.tmp 42)) w' from e42)
        have hb := abA w' (.cells (rmc [m0]).toArray 24)
        refine op_buildSlice (wanted_free _ _ (by rfl)) 29 24 1 _ rfl Try.underlying29 (rmc [m0]).toArray (by simp only [List.map_toArray, List.map_cons, List.map_nil, e42']; exact builtR1 m0) ?_
        exact hK _ _ (bbA hI hb) (phi8_mono hb) (show PS 1 _ _ from PS.mk_ rfl (all1 ok0))
      · intro a' w' K hI hd hq hK
        have e43 := hd 8 43 (by kernel_rfl)
        clear hd hq
        obtain ⟨gS, msS, e43', hlS, hrS⟩ := (show PS 1 (a'.eval (.tmp 43)) w' from e43)
        refine op_call #[.int .i64 0, .slice (some ⟨gS, 0, none⟩) 1 1] (wanted_free _ _ (by rfl)) rfl Try.func9 (by kernel_rfl) rfl (by simp [e43']; rfl) ?_
        refine (claim_b 0 (some ⟨gS, 0, none⟩) 1 1 msS w' hlS (by decide) hrS).mono ?_
        rintro e w6 ⟨x, _, rfl, _, _, _, _, hbt, hb⟩
        exact ⟨_, rfl, hK _ _ (bbA hI hb) (phi8_mono hb) (show PC _ _ from ⟨x, rfl, hbt⟩)⟩
      · intro a' w' K hI hd hq hK
        have e44 := hd 9 44 (by kernel_rfl)
        clear hd hq
        obtain ⟨x0, e44', ok0⟩ := (show PC (a'.eval (.tmp 44)) w' from e44)
        have hb := abA w' (.cells (clc [x0]).toArray 27)
        refine op_buildSlice (wanted_free _ _ (by rfl)) 30 27 1 _ rfl Try.underlying30 (clc [x0]).toArray (by simp only [List.map_toArray, List.map_cons, List.map_nil, e44']; exact builtC1 x0) ?_
        exact hK _ _ (bbA hI hb) (phi8_mono hb) (show PL 1 _ _ from PL.mk_ rfl (all1 ok0))
      · intro a' w' K hI hd hq hK
        clear hd hq
        refine op_value (wanted_free _ _ (by rfl)) (v := .agg #[.int .i64 2, .string ⟨#[]⟩, .slice none 0 0, .string ⟨#[]⟩]) (w'' := w') ?_ (hK _ _ hI (fun _ _ h => h) (show PR _ _ from ⟨⟨2, [], none, 0, [], []⟩, rfl, (fun h0 => absurd h0 (by simp)), by simp, by simp, by simp⟩))
        clear hK hI
        simp only [execOp]
        go_simp
      · intro a' w' K hI hd hq hK
        have e46 := hd 11 46 (by kernel_rfl)
        clear hd hq
        obtain ⟨m0, e46', ok0⟩ := (show PR (a'.eval (.tmp 46)) w' from e46)
        have hb := abA w' (.cells (rmc [m0]).toArray 24)
        refine op_buildSlice (wanted_free _ _ (by rfl)) 29 24 1 _ rfl Try.underlying29 (rmc [m0]).toArray (by simp only [List.map_toArray, List.map_cons, List.map_nil, e46']; exact builtR1 m0) ?_
        exact hK _ _ (bbA hI hb) (phi8_mono hb) (show PS 1 _ _ from PS.mk_ rfl (all1 ok0))
      · intro a' w' K hI hd hq hK
        have e47 := hd 12 47 (by kernel_rfl)
        clear hd hq
        obtain ⟨gS, msS, e47', hlS, hrS⟩ := (show PS 1 (a'.eval (.tmp 47)) w' from e47)
        refine op_call #[.int .i64 0, .slice (some ⟨gS, 0, none⟩) 1 1] (wanted_free _ _ (by rfl)) rfl Try.func9 (by kernel_rfl) rfl (by simp [e47']; rfl) ?_
        refine (claim_b 0 (some ⟨gS, 0, none⟩) 1 1 msS w' hlS (by decide) hrS).mono ?_
        rintro e w6 ⟨x, _, rfl, _, _, _, _, hbt, hb⟩
        exact ⟨_, rfl, hK _ _ (bbA hI hb) (phi8_mono hb) (show PC _ _ from ⟨x, rfl, hbt⟩)⟩
      · intro a' w' K hI hd hq hK
        have e48 := hd 13 48 (by kernel_rfl)
        clear hd hq
        obtain ⟨x0, e48', ok0⟩ := (show PC (a'.eval (.tmp 48)) w' from e48)
        have hb := abA w' (.cells (clc [x0]).toArray 27)
        refine op_buildSlice (wanted_free _ _ (by rfl)) 30 27 1 _ rfl Try.underlying30 (clc [x0]).toArray (by simp only [List.map_toArray, List.map_cons, List.map_nil, e48']; exact builtC1 x0) ?_
        exact hK _ _ (bbA hI hb) (phi8_mono hb) (show PL 1 _ _ from PL.mk_ rfl (all1 ok0))
      · intro a' w' K hI hd hq hK
        clear hd hq
        have hb := abA w' (.cells #[.int .i64 1, .int .i64 0] 3)
        refine op_value (wanted_free _ _ (by rfl)) (v := .slice (some ⟨w'.heap.size, 0, none⟩) 2 2) (w'' := w'.alloc (.cells #[.int .i64 1, .int .i64 0] 3)) ?_ (hK _ _ (bbA hI hb) (phi8_mono hb) (show PI _ _ from ⟨w'.heap.size, rfl, RC_newL w' [.int .i64 1, .int .i64 0] _⟩))
        clear hK hI hb
        simp only [execOp]
        go_simp
      · intro a' w' K hI hd hq hK
        have e50 := hd 15 50 (by kernel_rfl)
        clear hd hq
        obtain ⟨g, e50', hg⟩ := (show PI (a'.eval (.tmp 50)) w' from e50)
        refine op_value (wanted_free _ _ (by rfl)) (v := .agg #[.int .i64 2, .string ⟨#[116]⟩, .slice (some ⟨g, 0, none⟩) 2 2, .string ⟨#[]⟩]) (w'' := w') ?_ (hK _ _ hI (fun _ _ h => h) (show PR _ _ from ⟨⟨2, [116], some ⟨g, 0, none⟩, 2, [1, 0], []⟩, rfl, hg, by simp, by simp, by simp⟩))
        clear hK
        simp only [execOp, e50']
        have f50 : a'.tmps[50]?.getD undef = .slice (some ⟨g, 0, none⟩) 2 2 := (Array.getD_eq_getD_getElem? ..).symm.trans e50'
        clear e50 e50' hI hg
        go_simp
      · intro a' w' K hI hd hq hK
        have e51 := hd 16 51 (by kernel_rfl)
        clear hd hq
        obtain ⟨m0, e51', ok0⟩ := (show PR (a'.eval (.tmp 51)) w' from e51)
        have hb := abA w' (.cells (rmc [m0]).toArray 24)
        refine op_buildSlice (wanted_free _ _ (by rfl)) 29 24 1 _ rfl Try.underlying29 (rmc [m0]).toArray (by simp only [List.map_toArray, List.map_cons, List.map_nil, e51']; exact builtR1 m0) ?_
        exact hK _ _ (bbA hI hb) (phi8_mono hb) (show PS 1 _ _ from PS.mk_ rfl (all1 ok0))
      · intro a' w' K hI hd hq hK
        have e52 := hd 17 52 (by kernel_rfl)
        clear hd hq
        obtain ⟨gS, msS, e52', hlS, hrS⟩ := (show PS 1 (a'.eval (.tmp 52)) w' from e52)
        refine op_call #[.int .i64 0, .slice (some ⟨gS, 0, none⟩) 1 1] (wanted_free _ _ (by rfl)) rfl Try.func9 (by kernel_rfl) rfl (by simp [e52']; rfl) ?_
        refine (claim_b 0 (some ⟨gS, 0, none⟩) 1 1 msS w' hlS (by decide) hrS).mono ?_
        rintro e w6 ⟨x, _, rfl, _, _, _, _, hbt, hb⟩
        exact ⟨_, rfl, hK _ _ (bbA hI hb) (phi8_mono hb) (show PC _ _ from ⟨x, rfl, hbt⟩)⟩
      · intro a' w' K hI hd hq hK
        have e53 := hd 18 53 (by kernel_rfl)
        clear hd hq
        obtain ⟨x0, e53', ok0⟩ := (show PC (a'.eval (.tmp 53)) w' from e53)
        have hb := abA w' (.cells (clc [x0]).toArray 27)
        refine op_buildSlice (wanted_free _ _ (by rfl)) 30 27 1 _ rfl Try.underlying30 (clc [x0]).toArray (by simp only [List.map_toArray, List.map_cons, List.map_nil, e53']; exact builtC1 x0) ?_
        exact hK _ _ (bbA hI hb) (phi8_mono hb) (show PL 1 _ _ from PL.mk_ rfl (all1 ok0))
      · intro a' w' K hI hd hq hK
        have e5 : a'.eval (.tmp 5) = .pointer (some ⟨g5, 0, none⟩) := (hq 5 (by kernel_rfl)).trans rfl
        clear hd hq
        obtain ⟨⟨c0, c1, c2, c3⟩, ok⟩ := KM5.out w' hI
        refine op_value (wanted_free _ _ (by rfl)) (v := .agg #[.int .i64 1, .string ⟨#[]⟩, .slice none 0 0, .string ⟨#[120]⟩]) (w'' := w') ?_ (hK _ _ hI (fun _ _ h => h) (show PR _ _ from ⟨⟨1, [], none, 0, [], [120]⟩, rfl, ok⟩))
        clear hK
        simp only [execOp, e5]
        have f5 := gdA e5
        clear e5 hI ok
        go_simp
      · intro a' w' K hI hd hq hK
        have e1 : a'.eval (.tmp 1) = .pointer (some ⟨g1, 0, none⟩) := (hq 1 (by kernel_rfl)).trans rfl
        clear hd hq
        obtain ⟨⟨c0, c1, c2, c3⟩, ok⟩ := KM1.out w' hI
        refine op_value (wanted_free _ _ (by rfl)) (v := .agg #[.int .i64 2, .string ⟨#[116]⟩, .slice (some ⟨za, 0, none⟩) 2 2, .string ⟨#[]⟩]) (w'' := w') ?_ (hK _ _ hI (fun _ _ h => h) (show PR _ _ from ⟨⟨2, [116], some ⟨za, 0, none⟩, 2, [0, 1], []⟩, rfl, ok⟩))
        clear hK
        simp only [execOp, e1]
        have f1 := gdA e1
        clear e1 hI ok
        go_simp
      · intro a' w' K hI hd hq hK
        have e55 := hd 20 55 (by kernel_rfl)
        have e56 := hd 21 56 (by kernel_rfl)
        clear hd hq
        obtain ⟨m0, e55', ok0⟩ := (show PR (a'.eval (.tmp 55)) w' from e55)
        obtain ⟨m1, e56', ok1⟩ := (show PR (a'.eval (.tmp 56)) w' from e56)
        have hb := abA w' (.cells (rmc [m0, m1]).toArray 24)
        refine op_buildSlice (wanted_free _ _ (by rfl)) 29 24 2 _ rfl Try.underlying29 (rmc [m0, m1]).toArray (by simp only [List.map_toArray, List.map_cons, List.map_nil, e55', e56']; exact builtR2 m0 m1) ?_
        exact hK _ _ (bbA hI hb) (phi8_mono hb) (show PS 2 _ _ from PS.mk_ rfl (all2 ok0 ok1))
      · intro a' w' K hI hd hq hK
        have e57 := hd 22 57 (by kernel_rfl)
        clear hd hq
        obtain ⟨gS, msS, e57', hlS, hrS⟩ := (show PS 2 (a'.eval (.tmp 57)) w' from e57)
        refine op_call #[.int .i64 0, .slice (some ⟨gS, 0, none⟩) 2 2] (wanted_free _ _ (by rfl)) rfl Try.func9 (by kernel_rfl) rfl (by simp [e57']; rfl) ?_
        refine (claim_b 0 (some ⟨gS, 0, none⟩) 2 2 msS w' hlS (by decide) hrS).mono ?_
        rintro e w6 ⟨x, _, rfl, _, _, _, _, hbt, hb⟩
        exact ⟨_, rfl, hK _ _ (bbA hI hb) (phi8_mono hb) (show PC _ _ from ⟨x, rfl, hbt⟩)⟩
      · intro a' w' K hI hd hq hK
        have e5 : a'.eval (.tmp 5) = .pointer (some ⟨g5, 0, none⟩) := (hq 5 (by kernel_rfl)).trans rfl
        clear hd hq
        obtain ⟨⟨c0, c1, c2, c3⟩, ok⟩ := KM5.out w' hI
        refine op_value (wanted_free _ _ (by rfl)) (v := .agg #[.int .i64 1, .string ⟨#[]⟩, .slice none 0 0, .string ⟨#[120]⟩]) (w'' := w') ?_ (hK _ _ hI (fun _ _ h => h) (show PR _ _ from ⟨⟨1, [], none, 0, [], [120]⟩, rfl, ok⟩))
        clear hK
        simp only [execOp, e5]
        have f5 := gdA e5
        clear e5 hI ok
        go_simp
      · intro a' w' K hI hd hq hK
        have e5 : a'.eval (.tmp 5) = .pointer (some ⟨g5, 0, none⟩) := (hq 5 (by kernel_rfl)).trans rfl
        clear hd hq
        obtain ⟨⟨c0, c1, c2, c3⟩, ok⟩ := KM5.out w' hI
        refine op_value (wanted_free _ _ (by rfl)) (v := .agg #[.int .i64 1, .string ⟨#[]⟩, .slice none 0 0, .string ⟨#[120]⟩]) (w'' := w') ?_ (hK _ _ hI (fun _ _ h => h) (show PR _ _ from ⟨⟨1, [], none, 0, [], [120]⟩, rfl, ok⟩))
        clear hK
        simp only [execOp, e5]
        have f5 := gdA e5
        clear e5 hI ok
        go_simp
      · intro a' w' K hI hd hq hK
        have e1 : a'.eval (.tmp 1) = .pointer (some ⟨g1, 0, none⟩) := (hq 1 (by kernel_rfl)).trans rfl
        clear hd hq
        obtain ⟨⟨c0, c1, c2, c3⟩, ok⟩ := KM1.out w' hI
        refine op_value (wanted_free _ _ (by rfl)) (v := .agg #[.int .i64 2, .string ⟨#[116]⟩, .slice (some ⟨za, 0, none⟩) 2 2, .string ⟨#[]⟩]) (w'' := w') ?_ (hK _ _ hI (fun _ _ h => h) (show PR _ _ from ⟨⟨2, [116], some ⟨za, 0, none⟩, 2, [0, 1], []⟩, rfl, ok⟩))
        clear hK
        simp only [execOp, e1]
        have f1 := gdA e1
        clear e1 hI ok
        go_simp
      · intro a' w' K hI hd hq hK
        have e59 := hd 24 59 (by kernel_rfl)
        have e60 := hd 25 60 (by kernel_rfl)
        have e61 := hd 26 61 (by kernel_rfl)
        clear hd hq
        obtain ⟨m0, e59', ok0⟩ := (show PR (a'.eval (.tmp 59)) w' from e59)
        obtain ⟨m1, e60', ok1⟩ := (show PR (a'.eval (.tmp 60)) w' from e60)
        obtain ⟨m2, e61', ok2⟩ := (show PR (a'.eval (.tmp 61)) w' from e61)
        have hb := abA w' (.cells (rmc [m0, m1, m2]).toArray 24)
        refine op_buildSlice (wanted_free _ _ (by rfl)) 29 24 3 _ rfl Try.underlying29 (rmc [m0, m1, m2]).toArray (by simp only [List.map_toArray, List.map_cons, List.map_nil, e59', e60', e61']; exact builtR3 m0 m1 m2) ?_
        exact hK _ _ (bbA hI hb) (phi8_mono hb) (show PS 3 _ _ from PS.mk_ rfl (all3 ok0 ok1 ok2))
      · intro a' w' K hI hd hq hK
        have e62 := hd 27 62 (by kernel_rfl)
        clear hd hq
        obtain ⟨gS, msS, e62', hlS, hrS⟩ := (show PS 3 (a'.eval (.tmp 62)) w' from e62)
        refine op_call #[.int .i64 0, .slice (some ⟨gS, 0, none⟩) 3 3] (wanted_free _ _ (by rfl)) rfl Try.func9 (by kernel_rfl) rfl (by simp [e62']; rfl) ?_
        refine (claim_b 0 (some ⟨gS, 0, none⟩) 3 3 msS w' hlS (by decide) hrS).mono ?_
        rintro e w6 ⟨x, _, rfl, _, _, _, _, hbt, hb⟩
        exact ⟨_, rfl, hK _ _ (bbA hI hb) (phi8_mono hb) (show PC _ _ from ⟨x, rfl, hbt⟩)⟩
      · intro a' w' K hI hd hq hK
        have e58 := hd 23 58 (by kernel_rfl)
        have e63 := hd 28 63 (by kernel_rfl)
        clear hd hq
        obtain ⟨x0, e58', ok0⟩ := (show PC (a'.eval (.tmp 58)) w' from e58)
        obtain ⟨x1, e63', ok1⟩ := (show PC (a'.eval (.tmp 63)) w' from e63)
        have hb := abA w' (.cells (clc [x0, x1]).toArray 27)
        refine op_buildSlice (wanted_free _ _ (by rfl)) 30 27 2 _ rfl Try.underlying30 (clc [x0, x1]).toArray (by simp only [List.map_toArray, List.map_cons, List.map_nil, e58', e63']; exact builtC2 x0 x1) ?_
        exact hK _ _ (bbA hI hb) (phi8_mono hb) (show PL 2 _ _ from PL.mk_ rfl (all2 ok0 ok1))
      · intro a' w' K hI hd hq hK
        have e5 : a'.eval (.tmp 5) = .pointer (some ⟨g5, 0, none⟩) := (hq 5 (by kernel_rfl)).trans rfl
        clear hd hq
        obtain ⟨⟨c0, c1, c2, c3⟩, ok⟩ := KM5.out w' hI
        refine op_value (wanted_free _ _ (by rfl)) (v := .agg #[.int .i64 1, .string ⟨#[]⟩, .slice none 0 0, .string ⟨#[120]⟩]) (w'' := w') ?_ (hK _ _ hI (fun _ _ h => h) (show PR _ _ from ⟨⟨1, [], none, 0, [], [120]⟩, rfl, ok⟩))
        clear hK
        simp only [execOp, e5]
        have f5 := gdA e5
        clear e5 hI ok
        go_simp
      · intro a' w' K hI hd hq hK
        have e1 : a'.eval (.tmp 1) = .pointer (some ⟨g1, 0, none⟩) := (hq 1 (by kernel_rfl)).trans rfl
        clear hd hq
        obtain ⟨⟨c0, c1, c2, c3⟩, ok⟩ := KM1.out w' hI
        refine op_value (wanted_free _ _ (by rfl)) (v := .agg #[.int .i64 2, .string ⟨#[116]⟩, .slice (some ⟨za, 0, none⟩) 2 2, .string ⟨#[]⟩]) (w'' := w') ?_ (hK _ _ hI (fun _ _ h => h) (show PR _ _ from ⟨⟨2, [116], some ⟨za, 0, none⟩, 2, [0, 1], []⟩, rfl, ok⟩))
        clear hK
        simp only [execOp, e1]
        have f1 := gdA e1
        clear e1 hI ok
        go_simp
      · intro a' w' K hI hd hq hK
        have e65 := hd 30 65 (by kernel_rfl)
        have e66 := hd 31 66 (by kernel_rfl)
        clear hd hq
        obtain ⟨m0, e65', ok0⟩ := (show PR (a'.eval (.tmp 65)) w' from e65)
        obtain ⟨m1, e66', ok1⟩ := (show PR (a'.eval (.tmp 66)) w' from e66)
        have hb := abA w' (.cells (rmc [m0, m1]).toArray 24)
        refine op_buildSlice (wanted_free _ _ (by rfl)) 29 24 2 _ rfl Try.underlying29 (rmc [m0, m1]).toArray (by simp only [List.map_toArray, List.map_cons, List.map_nil, e65', e66']; exact builtR2 m0 m1) ?_
        exact hK _ _ (bbA hI hb) (phi8_mono hb) (show PS 2 _ _ from PS.mk_ rfl (all2 ok0 ok1))
      · intro a' w' K hI hd hq hK
        have e67 := hd 32 67 (by kernel_rfl)
        clear hd hq
        obtain ⟨gS, msS, e67', hlS, hrS⟩ := (show PS 2 (a'.eval (.tmp 67)) w' from e67)
        refine op_call #[.int .i64 0, .slice (some ⟨gS, 0, none⟩) 2 2] (wanted_free _ _ (by rfl)) rfl Try.func9 (by kernel_rfl) rfl (by simp [e67']; rfl) ?_
        refine (claim_b 0 (some ⟨gS, 0, none⟩) 2 2 msS w' hlS (by decide) hrS).mono ?_
        rintro e w6 ⟨x, _, rfl, _, _, _, _, hbt, hb⟩
        exact ⟨_, rfl, hK _ _ (bbA hI hb) (phi8_mono hb) (show PC _ _ from ⟨x, rfl, hbt⟩)⟩
      · intro a' w' K hI hd hq hK
        have e5 : a'.eval (.tmp 5) = .pointer (some ⟨g5, 0, none⟩) := (hq 5 (by kernel_rfl)).trans rfl
        clear hd hq
        obtain ⟨⟨c0, c1, c2, c3⟩, ok⟩ := KM5.out w' hI
        refine op_value (wanted_free _ _ (by rfl)) (v := .agg #[.int .i64 1, .string ⟨#[]⟩, .slice none 0 0, .string ⟨#[120]⟩]) (w'' := w') ?_ (hK _ _ hI (fun _ _ h => h) (show PR _ _ from ⟨⟨1, [], none, 0, [], [120]⟩, rfl, ok⟩))
        clear hK
        simp only [execOp, e5]
        have f5 := gdA e5
        clear e5 hI ok
        go_simp
      · intro a' w' K hI hd hq hK
        have e1 : a'.eval (.tmp 1) = .pointer (some ⟨g1, 0, none⟩) := (hq 1 (by kernel_rfl)).trans rfl
        clear hd hq
        obtain ⟨⟨c0, c1, c2, c3⟩, ok⟩ := KM1.out w' hI
        refine op_value (wanted_free _ _ (by rfl)) (v := .agg #[.int .i64 2, .string ⟨#[116]⟩, .slice (some ⟨za, 0, none⟩) 2 2, .string ⟨#[]⟩]) (w'' := w') ?_ (hK _ _ hI (fun _ _ h => h) (show PR _ _ from ⟨⟨2, [116], some ⟨za, 0, none⟩, 2, [0, 1], []⟩, rfl, ok⟩))
        clear hK
        simp only [execOp, e1]
        have f1 := gdA e1
        clear e1 hI ok
        go_simp
      · intro a' w' K hI hd hq hK
        have e2 : a'.eval (.tmp 2) = .pointer (some ⟨g2, 0, none⟩) := (hq 2 (by kernel_rfl)).trans rfl
        clear hd hq
        obtain ⟨⟨c0, c1, c2, c3⟩, ok⟩ := KM2.out w' hI
        refine op_value (wanted_free _ _ (by rfl)) (v := .agg #[.int .i64 3, .string ⟨#[116]⟩, .slice (some ⟨zb, 0, none⟩) 2 2, .string ⟨#[]⟩]) (w'' := w') ?_ (hK _ _ hI (fun _ _ h => h) (show PR _ _ from ⟨⟨3, [116], some ⟨zb, 0, none⟩, 2, [0, 1], []⟩, rfl, ok⟩))
        clear hK
        simp only [execOp, e2]
        have f2 := gdA e2
        clear e2 hI ok
        go_simp
      · intro a' w' K hI hd hq hK
        have e69 := hd 34 69 (by kernel_rfl)
        have e70 := hd 35 70 (by kernel_rfl)
        have e71 := hd 36 71 (by kernel_rfl)
        clear hd hq
        obtain ⟨m0, e69', ok0⟩ := (show PR (a'.eval (.tmp 69)) w' from e69)
        obtain ⟨m1, e70', ok1⟩ := (show PR (a'.eval (.tmp 70)) w' from e70)
        obtain ⟨m2, e71', ok2⟩ := (show PR (a'.eval (.tmp 71)) w' from e71)
        have hb := abA w' (.cells (rmc [m0, m1, m2]).toArray 24)
        refine op_buildSlice (wanted_free _ _ (by rfl)) 29 24 3 _ rfl Try.underlying29 (rmc [m0, m1, m2]).toArray (by simp only [List.map_toArray, List.map_cons, List.map_nil, e69', e70', e71']; exact builtR3 m0 m1 m2) ?_
        exact hK _ _ (bbA hI hb) (phi8_mono hb) (show PS 3 _ _ from PS.mk_ rfl (all3 ok0 ok1 ok2))
      · intro a' w' K hI hd hq hK
        have e72 := hd 37 72 (by kernel_rfl)
        clear hd hq
        obtain ⟨gS, msS, e72', hlS, hrS⟩ := (show PS 3 (a'.eval (.tmp 72)) w' from e72)
        refine op_call #[.int .i64 0, .slice (some ⟨gS, 0, none⟩) 3 3] (wanted_free _ _ (by rfl)) rfl Try.func9 (by kernel_rfl) rfl (by simp [e72']; rfl) ?_
        refine (claim_b 0 (some ⟨gS, 0, none⟩) 3 3 msS w' hlS (by decide) hrS).mono ?_
        rintro e w6 ⟨x, _, rfl, _, _, _, _, hbt, hb⟩
        exact ⟨_, rfl, hK _ _ (bbA hI hb) (phi8_mono hb) (show PC _ _ from ⟨x, rfl, hbt⟩)⟩
      · intro a' w' K hI hd hq hK
        have e1 : a'.eval (.tmp 1) = .pointer (some ⟨g1, 0, none⟩) := (hq 1 (by kernel_rfl)).trans rfl
        clear hd hq
        obtain ⟨⟨c0, c1, c2, c3⟩, ok⟩ := KM1.out w' hI
        refine op_value (wanted_free _ _ (by rfl)) (v := .agg #[.int .i64 2, .string ⟨#[116]⟩, .slice (some ⟨za, 0, none⟩) 2 2, .string ⟨#[]⟩]) (w'' := w') ?_ (hK _ _ hI (fun _ _ h => h) (show PR _ _ from ⟨⟨2, [116], some ⟨za, 0, none⟩, 2, [0, 1], []⟩, rfl, ok⟩))
        clear hK
        simp only [execOp, e1]
        have f1 := gdA e1
        clear e1 hI ok
        go_simp
      · intro a' w' K hI hd hq hK
        have e2 : a'.eval (.tmp 2) = .pointer (some ⟨g2, 0, none⟩) := (hq 2 (by kernel_rfl)).trans rfl
        clear hd hq
        obtain ⟨⟨c0, c1, c2, c3⟩, ok⟩ := KM2.out w' hI
        refine op_value (wanted_free _ _ (by rfl)) (v := .agg #[.int .i64 3, .string ⟨#[116]⟩, .slice (some ⟨zb, 0, none⟩) 2 2, .string ⟨#[]⟩]) (w'' := w') ?_ (hK _ _ hI (fun _ _ h => h) (show PR _ _ from ⟨⟨3, [116], some ⟨zb, 0, none⟩, 2, [0, 1], []⟩, rfl, ok⟩))
        clear hK
        simp only [execOp, e2]
        have f2 := gdA e2
        clear e2 hI ok
        go_simp
      · intro a' w' K hI hd hq hK
        have e74 := hd 39 74 (by kernel_rfl)
        have e75 := hd 40 75 (by kernel_rfl)
        clear hd hq
        obtain ⟨m0, e74', ok0⟩ := (show PR (a'.eval (.tmp 74)) w' from e74)
        obtain ⟨m1, e75', ok1⟩ := (show PR (a'.eval (.tmp 75)) w' from e75)
        have hb := abA w' (.cells (rmc [m0, m1]).toArray 24)
        refine op_buildSlice (wanted_free _ _ (by rfl)) 29 24 2 _ rfl Try.underlying29 (rmc [m0, m1]).toArray (by simp only [List.map_toArray, List.map_cons, List.map_nil, e74', e75']; exact builtR2 m0 m1) ?_
        exact hK _ _ (bbA hI hb) (phi8_mono hb) (show PS 2 _ _ from PS.mk_ rfl (all2 ok0 ok1))
      · intro a' w' K hI hd hq hK
        have e76 := hd 41 76 (by kernel_rfl)
        clear hd hq
        obtain ⟨gS, msS, e76', hlS, hrS⟩ := (show PS 2 (a'.eval (.tmp 76)) w' from e76)
        refine op_call #[.int .i64 1, .slice (some ⟨gS, 0, none⟩) 2 2] (wanted_free _ _ (by rfl)) rfl Try.func9 (by kernel_rfl) rfl (by simp [e76']; rfl) ?_
        refine (claim_b 1 (some ⟨gS, 0, none⟩) 2 2 msS w' hlS (by decide) hrS).mono ?_
        rintro e w6 ⟨x, _, rfl, _, _, _, _, hbt, hb⟩
        exact ⟨_, rfl, hK _ _ (bbA hI hb) (phi8_mono hb) (show PC _ _ from ⟨x, rfl, hbt⟩)⟩
      · intro a' w' K hI hd hq hK
        have e68 := hd 33 68 (by kernel_rfl)
        have e73 := hd 38 73 (by kernel_rfl)
        have e77 := hd 42 77 (by kernel_rfl)
        clear hd hq
        obtain ⟨x0, e68', ok0⟩ := (show PC (a'.eval (.tmp 68)) w' from e68)
        obtain ⟨x1, e73', ok1⟩ := (show PC (a'.eval (.tmp 73)) w' from e73)
        obtain ⟨x2, e77', ok2⟩ := (show PC (a'.eval (.tmp 77)) w' from e77)
        have hb := abA w' (.cells (clc [x0, x1, x2]).toArray 27)
        refine op_buildSlice (wanted_free _ _ (by rfl)) 30 27 3 _ rfl Try.underlying30 (clc [x0, x1, x2]).toArray (by simp only [List.map_toArray, List.map_cons, List.map_nil, e68', e73', e77']; exact builtC3 x0 x1 x2) ?_
        exact hK _ _ (bbA hI hb) (phi8_mono hb) (show PL 3 _ _ from PL.mk_ rfl (all3 ok0 ok1 ok2))
      · intro a' w' K hI hd hq hK
        have e1 : a'.eval (.tmp 1) = .pointer (some ⟨g1, 0, none⟩) := (hq 1 (by kernel_rfl)).trans rfl
        clear hd hq
        obtain ⟨⟨c0, c1, c2, c3⟩, ok⟩ := KM1.out w' hI
        refine op_value (wanted_free _ _ (by rfl)) (v := .agg #[.int .i64 2, .string ⟨#[116]⟩, .slice (some ⟨za, 0, none⟩) 2 2, .string ⟨#[]⟩]) (w'' := w') ?_ (hK _ _ hI (fun _ _ h => h) (show PR _ _ from ⟨⟨2, [116], some ⟨za, 0, none⟩, 2, [0, 1], []⟩, rfl, ok⟩))
        clear hK
        simp only [execOp, e1]
        have f1 := gdA e1
        clear e1 hI ok
        go_simp
      · intro a' w' K hI hd hq hK
        have e2 : a'.eval (.tmp 2) = .pointer (some ⟨g2, 0, none⟩) := (hq 2 (by kernel_rfl)).trans rfl
        clear hd hq
        obtain ⟨⟨c0, c1, c2, c3⟩, ok⟩ := KM2.out w' hI
        refine op_value (wanted_free _ _ (by rfl)) (v := .agg #[.int .i64 3, .string ⟨#[116]⟩, .slice (some ⟨zb, 0, none⟩) 2 2, .string ⟨#[]⟩]) (w'' := w') ?_ (hK _ _ hI (fun _ _ h => h) (show PR _ _ from ⟨⟨3, [116], some ⟨zb, 0, none⟩, 2, [0, 1], []⟩, rfl, ok⟩))
        clear hK
        simp only [execOp, e2]
        have f2 := gdA e2
        clear e2 hI ok
        go_simp
      · intro a' w' K hI hd hq hK
        have e2 : a'.eval (.tmp 2) = .pointer (some ⟨g2, 0, none⟩) := (hq 2 (by kernel_rfl)).trans rfl
        clear hd hq
        obtain ⟨⟨c0, c1, c2, c3⟩, ok⟩ := KM2.out w' hI
        refine op_value (wanted_free _ _ (by rfl)) (v := .agg #[.int .i64 3, .string ⟨#[116]⟩, .slice (some ⟨zb, 0, none⟩) 2 2, .string ⟨#[]⟩]) (w'' := w') ?_ (hK _ _ hI (fun _ _ h => h) (show PR _ _ from ⟨⟨3, [116], some ⟨zb, 0, none⟩, 2, [0, 1], []⟩, rfl, ok⟩))
        clear hK
        simp only [execOp, e2]
        have f2 := gdA e2
        clear e2 hI ok
        go_simp
      · intro a' w' K hI hd hq hK
        have e79 := hd 44 79 (by kernel_rfl)
        have e80 := hd 45 80 (by kernel_rfl)
        have e81 := hd 46 81 (by kernel_rfl)
        clear hd hq
        obtain ⟨m0, e79', ok0⟩ := (show PR (a'.eval (.tmp 79)) w' from e79)
        obtain ⟨m1, e80', ok1⟩ := (show PR (a'.eval (.tmp 80)) w' from e80)
        obtain ⟨m2, e81', ok2⟩ := (show PR (a'.eval (.tmp 81)) w' from e81)
        have hb := abA w' (.cells (rmc [m0, m1, m2]).toArray 24)
        refine op_buildSlice (wanted_free _ _ (by rfl)) 29 24 3 _ rfl Try.underlying29 (rmc [m0, m1, m2]).toArray (by simp only [List.map_toArray, List.map_cons, List.map_nil, e79', e80', e81']; exact builtR3 m0 m1 m2) ?_
        exact hK _ _ (bbA hI hb) (phi8_mono hb) (show PS 3 _ _ from PS.mk_ rfl (all3 ok0 ok1 ok2))
      · intro a' w' K hI hd hq hK
        have e82 := hd 47 82 (by kernel_rfl)
        clear hd hq
        obtain ⟨gS, msS, e82', hlS, hrS⟩ := (show PS 3 (a'.eval (.tmp 82)) w' from e82)
        refine op_call #[.int .i64 0, .slice (some ⟨gS, 0, none⟩) 3 3] (wanted_free _ _ (by rfl)) rfl Try.func9 (by kernel_rfl) rfl (by simp [e82']; rfl) ?_
        refine (claim_b 0 (some ⟨gS, 0, none⟩) 3 3 msS w' hlS (by decide) hrS).mono ?_
        rintro e w6 ⟨x, _, rfl, _, _, _, _, hbt, hb⟩
        exact ⟨_, rfl, hK _ _ (bbA hI hb) (phi8_mono hb) (show PC _ _ from ⟨x, rfl, hbt⟩)⟩
      · intro a' w' K hI hd hq hK
        have e83 := hd 48 83 (by kernel_rfl)
        clear hd hq
        obtain ⟨x0, e83', ok0⟩ := (show PC (a'.eval (.tmp 83)) w' from e83)
        have hb := abA w' (.cells (clc [x0]).toArray 27)
        refine op_buildSlice (wanted_free _ _ (by rfl)) 30 27 1 _ rfl Try.underlying30 (clc [x0]).toArray (by simp only [List.map_toArray, List.map_cons, List.map_nil, e83']; exact builtC1 x0) ?_
        exact hK _ _ (bbA hI hb) (phi8_mono hb) (show PL 1 _ _ from PL.mk_ rfl (all1 ok0))
      · intro a' w' K hI hd hq hK
        have e1 : a'.eval (.tmp 1) = .pointer (some ⟨g1, 0, none⟩) := (hq 1 (by kernel_rfl)).trans rfl
        clear hd hq
        obtain ⟨⟨c0, c1, c2, c3⟩, ok⟩ := KM1.out w' hI
        refine op_value (wanted_free _ _ (by rfl)) (v := .agg #[.int .i64 2, .string ⟨#[116]⟩, .slice (some ⟨za, 0, none⟩) 2 2, .string ⟨#[]⟩]) (w'' := w') ?_ (hK _ _ hI (fun _ _ h => h) (show PR _ _ from ⟨⟨2, [116], some ⟨za, 0, none⟩, 2, [0, 1], []⟩, rfl, ok⟩))
        clear hK
        simp only [execOp, e1]
        have f1 := gdA e1
        clear e1 hI ok
        go_simp
      · intro a' w' K hI hd hq hK
        have e4 : a'.eval (.tmp 4) = .pointer (some ⟨g4, 0, none⟩) := (hq 4 (by kernel_rfl)).trans rfl
        clear hd hq
        obtain ⟨⟨c0, c1, c2, c3⟩, ok⟩ := KM4.out w' hI
        refine op_value (wanted_free _ _ (by rfl)) (v := .agg #[.int .i64 4, .string ⟨#[116]⟩, .slice none 0 0, .string ⟨#[]⟩]) (w'' := w') ?_ (hK _ _ hI (fun _ _ h => h) (show PR _ _ from ⟨⟨4, [116], none, 0, [], []⟩, rfl, ok⟩))
        clear hK
        simp only [execOp, e4]
        have f4 := gdA e4
        clear e4 hI ok
        go_simp
      · intro a' w' K hI hd hq hK
        have e2 : a'.eval (.tmp 2) = .pointer (some ⟨g2, 0, none⟩) := (hq 2 (by kernel_rfl)).trans rfl
        clear hd hq
        obtain ⟨⟨c0, c1, c2, c3⟩, ok⟩ := KM2.out w' hI
        refine op_value (wanted_free _ _ (by rfl)) (v := .agg #[.int .i64 3, .string ⟨#[116]⟩, .slice (some ⟨zb, 0, none⟩) 2 2, .string ⟨#[]⟩]) (w'' := w') ?_ (hK _ _ hI (fun _ _ h => h) (show PR _ _ from ⟨⟨3, [116], some ⟨zb, 0, none⟩, 2, [0, 1], []⟩, rfl, ok⟩))
        clear hK
        simp only [execOp, e2]
        have f2 := gdA e2
        clear e2 hI ok
        go_simp
      · intro a' w' K hI hd hq hK
        have e85 := hd 50 85 (by kernel_rfl)
        have e86 := hd 51 86 (by kernel_rfl)
        have e87 := hd 52 87 (by kernel_rfl)
        clear hd hq
        obtain ⟨m0, e85', ok0⟩ := (show PR (a'.eval (.tmp 85)) w' from e85)
        obtain ⟨m1, e86', ok1⟩ := (show PR (a'.eval (.tmp 86)) w' from e86)
        obtain ⟨m2, e87', ok2⟩ := (show PR (a'.eval (.tmp 87)) w' from e87)
        have hb := abA w' (.cells (rmc [m0, m1, m2]).toArray 24)
        refine op_buildSlice (wanted_free _ _ (by rfl)) 29 24 3 _ rfl Try.underlying29 (rmc [m0, m1, m2]).toArray (by simp only [List.map_toArray, List.map_cons, List.map_nil, e85', e86', e87']; exact builtR3 m0 m1 m2) ?_
        exact hK _ _ (bbA hI hb) (phi8_mono hb) (show PS 3 _ _ from PS.mk_ rfl (all3 ok0 ok1 ok2))
      · intro a' w' K hI hd hq hK
        have e88 := hd 53 88 (by kernel_rfl)
        clear hd hq
        obtain ⟨gS, msS, e88', hlS, hrS⟩ := (show PS 3 (a'.eval (.tmp 88)) w' from e88)
        refine op_call #[.int .i64 0, .slice (some ⟨gS, 0, none⟩) 3 3] (wanted_free _ _ (by rfl)) rfl Try.func9 (by kernel_rfl) rfl (by simp [e88']; rfl) ?_
        refine (claim_b 0 (some ⟨gS, 0, none⟩) 3 3 msS w' hlS (by decide) hrS).mono ?_
        rintro e w6 ⟨x, _, rfl, _, _, _, _, hbt, hb⟩
        exact ⟨_, rfl, hK _ _ (bbA hI hb) (phi8_mono hb) (show PC _ _ from ⟨x, rfl, hbt⟩)⟩
      · intro a' w' K hI hd hq hK
        have e89 := hd 54 89 (by kernel_rfl)
        clear hd hq
        obtain ⟨x0, e89', ok0⟩ := (show PC (a'.eval (.tmp 89)) w' from e89)
        have hb := abA w' (.cells (clc [x0]).toArray 27)
        refine op_buildSlice (wanted_free _ _ (by rfl)) 30 27 1 _ rfl Try.underlying30 (clc [x0]).toArray (by simp only [List.map_toArray, List.map_cons, List.map_nil, e89']; exact builtC1 x0) ?_
        exact hK _ _ (bbA hI hb) (phi8_mono hb) (show PL 1 _ _ from PL.mk_ rfl (all1 ok0))
      · intro a' w' K hI hd hq hK
        have e4 : a'.eval (.tmp 4) = .pointer (some ⟨g4, 0, none⟩) := (hq 4 (by kernel_rfl)).trans rfl
        clear hd hq
        obtain ⟨⟨c0, c1, c2, c3⟩, ok⟩ := KM4.out w' hI
        refine op_value (wanted_free _ _ (by rfl)) (v := .agg #[.int .i64 4, .string ⟨#[116]⟩, .slice none 0 0, .string ⟨#[]⟩]) (w'' := w') ?_ (hK _ _ hI (fun _ _ h => h) (show PR _ _ from ⟨⟨4, [116], none, 0, [], []⟩, rfl, ok⟩))
        clear hK
        simp only [execOp, e4]
        have f4 := gdA e4
        clear e4 hI ok
        go_simp
      · intro a' w' K hI hd hq hK
        have e4 : a'.eval (.tmp 4) = .pointer (some ⟨g4, 0, none⟩) := (hq 4 (by kernel_rfl)).trans rfl
        clear hd hq
        obtain ⟨⟨c0, c1, c2, c3⟩, ok⟩ := KM4.out w' hI
        refine op_value (wanted_free _ _ (by rfl)) (v := .agg #[.int .i64 4, .string ⟨#[116]⟩, .slice none 0 0, .string ⟨#[]⟩]) (w'' := w') ?_ (hK _ _ hI (fun _ _ h => h) (show PR _ _ from ⟨⟨4, [116], none, 0, [], []⟩, rfl, ok⟩))
        clear hK
        simp only [execOp, e4]
        have f4 := gdA e4
        clear e4 hI ok
        go_simp
      · intro a' w' K hI hd hq hK
        have e91 := hd 56 91 (by kernel_rfl)
        have e92 := hd 57 92 (by kernel_rfl)
        clear hd hq
        obtain ⟨m0, e91', ok0⟩ := (show PR (a'.eval (.tmp 91)) w' from e91)
        obtain ⟨m1, e92', ok1⟩ := (show PR (a'.eval (.tmp 92)) w' from e92)
        have hb := abA w' (.cells (rmc [m0, m1]).toArray 24)
        refine op_buildSlice (wanted_free _ _ (by rfl)) 29 24 2 _ rfl Try.underlying29 (rmc [m0, m1]).toArray (by simp only [List.map_toArray, List.map_cons, List.map_nil, e91', e92']; exact builtR2 m0 m1) ?_
        exact hK _ _ (bbA hI hb) (phi8_mono hb) (show PS 2 _ _ from PS.mk_ rfl (all2 ok0 ok1))
      · intro a' w' K hI hd hq hK
        have e93 := hd 58 93 (by kernel_rfl)
        clear hd hq
        obtain ⟨gS, msS, e93', hlS, hrS⟩ := (show PS 2 (a'.eval (.tmp 93)) w' from e93)
        refine op_call #[.int .i64 0, .slice (some ⟨gS, 0, none⟩) 2 2] (wanted_free _ _ (by rfl)) rfl Try.func9 (by kernel_rfl) rfl (by simp [e93']; rfl) ?_
        refine (claim_b 0 (some ⟨gS, 0, none⟩) 2 2 msS w' hlS (by decide) hrS).mono ?_
        rintro e w6 ⟨x, _, rfl, _, _, _, _, hbt, hb⟩
        exact ⟨_, rfl, hK _ _ (bbA hI hb) (phi8_mono hb) (show PC _ _ from ⟨x, rfl, hbt⟩)⟩
      · intro a' w' K hI hd hq hK
        have e94 := hd 59 94 (by kernel_rfl)
        clear hd hq
        obtain ⟨x0, e94', ok0⟩ := (show PC (a'.eval (.tmp 94)) w' from e94)
        have hb := abA w' (.cells (clc [x0]).toArray 27)
        refine op_buildSlice (wanted_free _ _ (by rfl)) 30 27 1 _ rfl Try.underlying30 (clc [x0]).toArray (by simp only [List.map_toArray, List.map_cons, List.map_nil, e94']; exact builtC1 x0) ?_
        exact hK _ _ (bbA hI hb) (phi8_mono hb) (show PL 1 _ _ from PL.mk_ rfl (all1 ok0))
      · intro a' w' K hI hd hq hK
        have e1 : a'.eval (.tmp 1) = .pointer (some ⟨g1, 0, none⟩) := (hq 1 (by kernel_rfl)).trans rfl
        clear hd hq
        obtain ⟨⟨c0, c1, c2, c3⟩, ok⟩ := KM1.out w' hI
        refine op_value (wanted_free _ _ (by rfl)) (v := .agg #[.int .i64 2, .string ⟨#[116]⟩, .slice (some ⟨za, 0, none⟩) 2 2, .string ⟨#[]⟩]) (w'' := w') ?_ (hK _ _ hI (fun _ _ h => h) (show PR _ _ from ⟨⟨2, [116], some ⟨za, 0, none⟩, 2, [0, 1], []⟩, rfl, ok⟩))
        clear hK
        simp only [execOp, e1]
        have f1 := gdA e1
        clear e1 hI ok
        go_simp
      · intro a' w' K hI hd hq hK
        have e2 : a'.eval (.tmp 2) = .pointer (some ⟨g2, 0, none⟩) := (hq 2 (by kernel_rfl)).trans rfl
        clear hd hq
        obtain ⟨⟨c0, c1, c2, c3⟩, ok⟩ := KM2.out w' hI
        refine op_value (wanted_free _ _ (by rfl)) (v := .agg #[.int .i64 3, .string ⟨#[116]⟩, .slice (some ⟨zb, 0, none⟩) 2 2, .string ⟨#[]⟩]) (w'' := w') ?_ (hK _ _ hI (fun _ _ h => h) (show PR _ _ from ⟨⟨3, [116], some ⟨zb, 0, none⟩, 2, [0, 1], []⟩, rfl, ok⟩))
        clear hK
        simp only [execOp, e2]
        have f2 := gdA e2
        clear e2 hI ok
        go_simp
      · intro a' w' K hI hd hq hK
        have e4 : a'.eval (.tmp 4) = .pointer (some ⟨g4, 0, none⟩) := (hq 4 (by kernel_rfl)).trans rfl
        clear hd hq
        obtain ⟨⟨c0, c1, c2, c3⟩, ok⟩ := KM4.out w' hI
        refine op_value (wanted_free _ _ (by rfl)) (v := .agg #[.int .i64 4, .string ⟨#[116]⟩, .slice none 0 0, .string ⟨#[]⟩]) (w'' := w') ?_ (hK _ _ hI (fun _ _ h => h) (show PR _ _ from ⟨⟨4, [116], none, 0, [], []⟩, rfl, ok⟩))
        clear hK
        simp only [execOp, e4]
        have f4 := gdA e4
        clear e4 hI ok
        go_simp
      · intro a' w' K hI hd hq hK
        have e96 := hd 61 96 (by kernel_rfl)
        have e97 := hd 62 97 (by kernel_rfl)
        have e98 := hd 63 98 (by kernel_rfl)
        clear hd hq
        obtain ⟨m0, e96', ok0⟩ := (show PR (a'.eval (.tmp 96)) w' from e96)
        obtain ⟨m1, e97', ok1⟩ := (show PR (a'.eval (.tmp 97)) w' from e97)
        obtain ⟨m2, e98', ok2⟩ := (show PR (a'.eval (.tmp 98)) w' from e98)
        have hb := abA w' (.cells (rmc [m0, m1, m2]).toArray 24)
        refine op_buildSlice (wanted_free _ _ (by rfl)) 29 24 3 _ rfl Try.underlying29 (rmc [m0, m1, m2]).toArray (by simp only [List.map_toArray, List.map_cons, List.map_nil, e96', e97', e98']; exact builtR3 m0 m1 m2) ?_
        exact hK _ _ (bbA hI hb) (phi8_mono hb) (show PS 3 _ _ from PS.mk_ rfl (all3 ok0 ok1 ok2))
      · intro a' w' K hI hd hq hK
        have e99 := hd 64 99 (by kernel_rfl)
        clear hd hq
        obtain ⟨gS, msS, e99', hlS, hrS⟩ := (show PS 3 (a'.eval (.tmp 99)) w' from e99)
        refine op_call #[.int .i64 0, .slice (some ⟨gS, 0, none⟩) 3 3] (wanted_free _ _ (by rfl)) rfl Try.func9 (by kernel_rfl) rfl (by simp [e99']; rfl) ?_
        refine (claim_b 0 (some ⟨gS, 0, none⟩) 3 3 msS w' hlS (by decide) hrS).mono ?_
        rintro e w6 ⟨x, _, rfl, _, _, _, _, hbt, hb⟩
        exact ⟨_, rfl, hK _ _ (bbA hI hb) (phi8_mono hb) (show PC _ _ from ⟨x, rfl, hbt⟩)⟩
      · intro a' w' K hI hd hq hK
        have e100 := hd 65 100 (by kernel_rfl)
        clear hd hq
        obtain ⟨x0, e100', ok0⟩ := (show PC (a'.eval (.tmp 100)) w' from e100)
        have hb := abA w' (.cells (clc [x0]).toArray 27)
        refine op_buildSlice (wanted_free _ _ (by rfl)) 30 27 1 _ rfl Try.underlying30 (clc [x0]).toArray (by simp only [List.map_toArray, List.map_cons, List.map_nil, e100']; exact builtC1 x0) ?_
        exact hK _ _ (bbA hI hb) (phi8_mono hb) (show PL 1 _ _ from PL.mk_ rfl (all1 ok0))
      · intro a' w' K hI hd hq hK
        have e2 : a'.eval (.tmp 2) = .pointer (some ⟨g2, 0, none⟩) := (hq 2 (by kernel_rfl)).trans rfl
        clear hd hq
        obtain ⟨⟨c0, c1, c2, c3⟩, ok⟩ := KM2.out w' hI
        refine op_value (wanted_free _ _ (by rfl)) (v := .agg #[.int .i64 3, .string ⟨#[116]⟩, .slice (some ⟨zb, 0, none⟩) 2 2, .string ⟨#[]⟩]) (w'' := w') ?_ (hK _ _ hI (fun _ _ h => h) (show PR _ _ from ⟨⟨3, [116], some ⟨zb, 0, none⟩, 2, [0, 1], []⟩, rfl, ok⟩))
        clear hK
        simp only [execOp, e2]
        have f2 := gdA e2
        clear e2 hI ok
        go_simp
      · intro a' w' K hI hd hq hK
        have e102 := hd 67 102 (by kernel_rfl)
        clear hd hq
        obtain ⟨m0, e102', ok0⟩ := (show PR (a'.eval (.tmp 102)) w' from e102)
        have hb := abA w' (.cells (rmc [m0]).toArray 24)
        refine op_buildSlice (wanted_free _ _ (by rfl)) 29 24 1 _ rfl Try.underlying29 (rmc [m0]).toArray (by simp only [List.map_toArray, List.map_cons, List.map_nil, e102']; exact builtR1 m0) ?_
        exact hK _ _ (bbA hI hb) (phi8_mono hb) (show PS 1 _ _ from PS.mk_ rfl (all1 ok0))
      · intro a' w' K hI hd hq hK
        have e103 := hd 68 103 (by kernel_rfl)
        clear hd hq
        obtain ⟨gS, msS, e103', hlS, hrS⟩ := (show PS 1 (a'.eval (.tmp 103)) w' from e103)
        refine op_call #[.int .i64 0, .slice (some ⟨gS, 0, none⟩) 1 1] (wanted_free _ _ (by rfl)) rfl Try.func9 (by kernel_rfl) rfl (by simp [e103']; rfl) ?_
        refine (claim_b 0 (some ⟨gS, 0, none⟩) 1 1 msS w' hlS (by decide) hrS).mono ?_
        rintro e w6 ⟨x, _, rfl, _, _, _, _, hbt, hb⟩
        exact ⟨_, rfl, hK _ _ (bbA hI hb) (phi8_mono hb) (show PC _ _ from ⟨x, rfl, hbt⟩)⟩
      · intro a' w' K hI hd hq hK
        have e104 := hd 69 104 (by kernel_rfl)
        clear hd hq
        obtain ⟨x0, e104', ok0⟩ := (show PC (a'.eval (.tmp 104)) w' from e104)
        have hb := abA w' (.cells (clc [x0]).toArray 27)
        refine op_buildSlice (wanted_free _ _ (by rfl)) 30 27 1 _ rfl Try.underlying30 (clc [x0]).toArray (by simp only [List.map_toArray, List.map_cons, List.map_nil, e104']; exact builtC1 x0) ?_
        exact hK _ _ (bbA hI hb) (phi8_mono hb) (show PL 1 _ _ from PL.mk_ rfl (all1 ok0))
      · intro a' w' K hI hd hq hK
        have e1 : a'.eval (.tmp 1) = .pointer (some ⟨g1, 0, none⟩) := (hq 1 (by kernel_rfl)).trans rfl
        clear hd hq
        obtain ⟨⟨c0, c1, c2, c3⟩, ok⟩ := KM1.out w' hI
        refine op_value (wanted_free _ _ (by rfl)) (v := .agg #[.int .i64 2, .string ⟨#[116]⟩, .slice (some ⟨za, 0, none⟩) 2 2, .string ⟨#[]⟩]) (w'' := w') ?_ (hK _ _ hI (fun _ _ h => h) (show PR _ _ from ⟨⟨2, [116], some ⟨za, 0, none⟩, 2, [0, 1], []⟩, rfl, ok⟩))
        clear hK
        simp only [execOp, e1]
        have f1 := gdA e1
        clear e1 hI ok
        go_simp
      · intro a' w' K hI hd hq hK
        have e2 : a'.eval (.tmp 2) = .pointer (some ⟨g2, 0, none⟩) := (hq 2 (by kernel_rfl)).trans rfl
        clear hd hq
        obtain ⟨⟨c0, c1, c2, c3⟩, ok⟩ := KM2.out w' hI
        refine op_value (wanted_free _ _ (by rfl)) (v := .agg #[.int .i64 3, .string ⟨#[116]⟩, .slice (some ⟨zb, 0, none⟩) 2 2, .string ⟨#[]⟩]) (w'' := w') ?_ (hK _ _ hI (fun _ _ h => h) (show PR _ _ from ⟨⟨3, [116], some ⟨zb, 0, none⟩, 2, [0, 1], []⟩, rfl, ok⟩))
        clear hK
        simp only [execOp, e2]
        have f2 := gdA e2
        clear e2 hI ok
        go_simp
      · intro a' w' K hI hd hq hK
        have e106 := hd 71 106 (by kernel_rfl)
        have e107 := hd 72 107 (by kernel_rfl)
        clear hd hq
        obtain ⟨m0, e106', ok0⟩ := (show PR (a'.eval (.tmp 106)) w' from e106)
        obtain ⟨m1, e107', ok1⟩ := (show PR (a'.eval (.tmp 107)) w' from e107)
        have hb := abA w' (.cells (rmc [m0, m1]).toArray 24)
        refine op_buildSlice (wanted_free _ _ (by rfl)) 29 24 2 _ rfl Try.underlying29 (rmc [m0, m1]).toArray (by simp only [List.map_toArray, List.map_cons, List.map_nil, e106', e107']; exact builtR2 m0 m1) ?_
        exact hK _ _ (bbA hI hb) (phi8_mono hb) (show PS 2 _ _ from PS.mk_ rfl (all2 ok0 ok1))
      · intro a' w' K hI hd hq hK
        have e108 := hd 73 108 (by kernel_rfl)
        clear hd hq
        obtain ⟨gS, msS, e108', hlS, hrS⟩ := (show PS 2 (a'.eval (.tmp 108)) w' from e108)
        refine op_call #[.int .i64 0, .slice (some ⟨gS, 0, none⟩) 2 2] (wanted_free _ _ (by rfl)) rfl Try.func9 (by kernel_rfl) rfl (by simp [e108']; rfl) ?_
        refine (claim_b 0 (some ⟨gS, 0, none⟩) 2 2 msS w' hlS (by decide) hrS).mono ?_
        rintro e w6 ⟨x, _, rfl, _, _, _, _, hbt, hb⟩
        exact ⟨_, rfl, hK _ _ (bbA hI hb) (phi8_mono hb) (show PC _ _ from ⟨x, rfl, hbt⟩)⟩
      · intro a' w' K hI hd hq hK
        have e1 : a'.eval (.tmp 1) = .pointer (some ⟨g1, 0, none⟩) := (hq 1 (by kernel_rfl)).trans rfl
        clear hd hq
        obtain ⟨⟨c0, c1, c2, c3⟩, ok⟩ := KM1.out w' hI
        refine op_value (wanted_free _ _ (by rfl)) (v := .agg #[.int .i64 2, .string ⟨#[116]⟩, .slice (some ⟨za, 0, none⟩) 2 2, .string ⟨#[]⟩]) (w'' := w') ?_ (hK _ _ hI (fun _ _ h => h) (show PR _ _ from ⟨⟨2, [116], some ⟨za, 0, none⟩, 2, [0, 1], []⟩, rfl, ok⟩))
        clear hK
        simp only [execOp, e1]
        have f1 := gdA e1
        clear e1 hI ok
        go_simp
      · intro a' w' K hI hd hq hK
        have e3 : a'.eval (.tmp 3) = .pointer (some ⟨g3, 0, none⟩) := (hq 3 (by kernel_rfl)).trans rfl
        clear hd hq
        obtain ⟨⟨c0, c1, c2, c3⟩, ok⟩ := KM3.out w' hI
        refine op_value (wanted_free _ _ (by rfl)) (v := .agg #[.int .i64 3, .string ⟨#[116]⟩, .slice (some ⟨zc, 0, none⟩) 1 1, .string ⟨#[]⟩]) (w'' := w') ?_ (hK _ _ hI (fun _ _ h => h) (show PR _ _ from ⟨⟨3, [116], some ⟨zc, 0, none⟩, 1, [1], []⟩, rfl, ok⟩))
        clear hK
        simp only [execOp, e3]
        have f3 := gdA e3
        clear e3 hI ok
        go_simp
      · intro a' w' K hI hd hq hK
        have e110 := hd 75 110 (by kernel_rfl)
        have e111 := hd 76 111 (by kernel_rfl)
        clear hd hq
        obtain ⟨m0, e110', ok0⟩ := (show PR (a'.eval (.tmp 110)) w' from e110)
        obtain ⟨m1, e111', ok1⟩ := (show PR (a'.eval (.tmp 111)) w' from e111)
        have hb := abA w' (.cells (rmc [m0, m1]).toArray 24)
        refine op_buildSlice (wanted_free _ _ (by rfl)) 29 24 2 _ rfl Try.underlying29 (rmc [m0, m1]).toArray (by simp only [List.map_toArray, List.map_cons, List.map_nil, e110', e111']; exact builtR2 m0 m1) ?_
        exact hK _ _ (bbA hI hb) (phi8_mono hb) (show PS 2 _ _ from PS.mk_ rfl (all2 ok0 ok1))
      · intro a' w' K hI hd hq hK
        have e112 := hd 77 112 (by kernel_rfl)
        clear hd hq
        obtain ⟨gS, msS, e112', hlS, hrS⟩ := (show PS 2 (a'.eval (.tmp 112)) w' from e112)
        refine op_call #[.int .i64 1, .slice (some ⟨gS, 0, none⟩) 2 2] (wanted_free _ _ (by rfl)) rfl Try.func9 (by kernel_rfl) rfl (by simp [e112']; rfl) ?_
        refine (claim_b 1 (some ⟨gS, 0, none⟩) 2 2 msS w' hlS (by decide) hrS).mono ?_
        rintro e w6 ⟨x, _, rfl, _, _, _, _, hbt, hb⟩
        exact ⟨_, rfl, hK _ _ (bbA hI hb) (phi8_mono hb) (show PC _ _ from ⟨x, rfl, hbt⟩)⟩
      · intro a' w' K hI hd hq hK
        have e109 := hd 74 109 (by kernel_rfl)
        have e113 := hd 78 113 (by kernel_rfl)
        clear hd hq
        obtain ⟨x0, e109', ok0⟩ := (show PC (a'.eval (.tmp 109)) w' from e109)
        obtain ⟨x1, e113', ok1⟩ := (show PC (a'.eval (.tmp 113)) w' from e113)
        have hb := abA w' (.cells (clc [x0, x1]).toArray 27)
        refine op_buildSlice (wanted_free _ _ (by rfl)) 30 27 2 _ rfl Try.underlying30 (clc [x0, x1]).toArray (by simp only [List.map_toArray, List.map_cons, List.map_nil, e109', e113']; exact builtC2 x0 x1) ?_
        exact hK _ _ (bbA hI hb) (phi8_mono hb) (show PL 2 _ _ from PL.mk_ rfl (all2 ok0 ok1))
      · intro a' w' K hI hd hq hK
        have e1 : a'.eval (.tmp 1) = .pointer (some ⟨g1, 0, none⟩) := (hq 1 (by kernel_rfl)).trans rfl
        clear hd hq
        obtain ⟨⟨c0, c1, c2, c3⟩, ok⟩ := KM1.out w' hI
        refine op_value (wanted_free _ _ (by rfl)) (v := .agg #[.int .i64 2, .string ⟨#[116]⟩, .slice (some ⟨za, 0, none⟩) 2 2, .string ⟨#[]⟩]) (w'' := w') ?_ (hK _ _ hI (fun _ _ h => h) (show PR _ _ from ⟨⟨2, [116], some ⟨za, 0, none⟩, 2, [0, 1], []⟩, rfl, ok⟩))
        clear hK
        simp only [execOp, e1]
        have f1 := gdA e1
        clear e1 hI ok
        go_simp
      · intro a' w' K hI hd hq hK
        have e2 : a'.eval (.tmp 2) = .pointer (some ⟨g2, 0, none⟩) := (hq 2 (by kernel_rfl)).trans rfl
        clear hd hq
        obtain ⟨⟨c0, c1, c2, c3⟩, ok⟩ := KM2.out w' hI
        refine op_value (wanted_free _ _ (by rfl)) (v := .agg #[.int .i64 3, .string ⟨#[116]⟩, .slice (some ⟨zb, 0, none⟩) 2 2, .string ⟨#[]⟩]) (w'' := w') ?_ (hK _ _ hI (fun _ _ h => h) (show PR _ _ from ⟨⟨3, [116], some ⟨zb, 0, none⟩, 2, [0, 1], []⟩, rfl, ok⟩))
        clear hK
        simp only [execOp, e2]
        have f2 := gdA e2
        clear e2 hI ok
        go_simp
      · intro a' w' K hI hd hq hK
        have e115 := hd 80 115 (by kernel_rfl)
        have e116 := hd 81 116 (by kernel_rfl)
        clear hd hq
        obtain ⟨m0, e115', ok0⟩ := (show PR (a'.eval (.tmp 115)) w' from e115)
        obtain ⟨m1, e116', ok1⟩ := (show PR (a'.eval (.tmp 116)) w' from e116)
        have hb := abA w' (.cells (rmc [m0, m1]).toArray 24)
        refine op_buildSlice (wanted_free _ _ (by rfl)) 29 24 2 _ rfl Try.underlying29 (rmc [m0, m1]).toArray (by simp only [List.map_toArray, List.map_cons, List.map_nil, e115', e116']; exact builtR2 m0 m1) ?_
        exact hK _ _ (bbA hI hb) (phi8_mono hb) (show PS 2 _ _ from PS.mk_ rfl (all2 ok0 ok1))
      · intro a' w' K hI hd hq hK
        have e117 := hd 82 117 (by kernel_rfl)
        clear hd hq
        obtain ⟨gS, msS, e117', hlS, hrS⟩ := (show PS 2 (a'.eval (.tmp 117)) w' from e117)
        refine op_call #[.int .i64 2, .slice (some ⟨gS, 0, none⟩) 2 2] (wanted_free _ _ (by rfl)) rfl Try.func9 (by kernel_rfl) rfl (by simp [e117']; rfl) ?_
        refine (claim_b 2 (some ⟨gS, 0, none⟩) 2 2 msS w' hlS (by decide) hrS).mono ?_
        rintro e w6 ⟨x, _, rfl, _, _, _, _, hbt, hb⟩
        exact ⟨_, rfl, hK _ _ (bbA hI hb) (phi8_mono hb) (show PC _ _ from ⟨x, rfl, hbt⟩)⟩
      · intro a' w' K hI hd hq hK
        have e118 := hd 83 118 (by kernel_rfl)
        clear hd hq
        obtain ⟨x0, e118', ok0⟩ := (show PC (a'.eval (.tmp 118)) w' from e118)
        have hb := abA w' (.cells (clc [x0]).toArray 27)
        refine op_buildSlice (wanted_free _ _ (by rfl)) 30 27 1 _ rfl Try.underlying30 (clc [x0]).toArray (by simp only [List.map_toArray, List.map_cons, List.map_nil, e118']; exact builtC1 x0) ?_
        exact hK _ _ (bbA hI hb) (phi8_mono hb) (show PL 1 _ _ from PL.mk_ rfl (all1 ok0))
      · intro a' w' K hI hd hq hK
        have e1 : a'.eval (.tmp 1) = .pointer (some ⟨g1, 0, none⟩) := (hq 1 (by kernel_rfl)).trans rfl
        clear hd hq
        obtain ⟨⟨c0, c1, c2, c3⟩, ok⟩ := KM1.out w' hI
        refine op_value (wanted_free _ _ (by rfl)) (v := .agg #[.int .i64 2, .string ⟨#[116]⟩, .slice (some ⟨za, 0, none⟩) 2 2, .string ⟨#[]⟩]) (w'' := w') ?_ (hK _ _ hI (fun _ _ h => h) (show PR _ _ from ⟨⟨2, [116], some ⟨za, 0, none⟩, 2, [0, 1], []⟩, rfl, ok⟩))
        clear hK
        simp only [execOp, e1]
        have f1 := gdA e1
        clear e1 hI ok
        go_simp
      · intro a' w' K hI hd hq hK
        have e2 : a'.eval (.tmp 2) = .pointer (some ⟨g2, 0, none⟩) := (hq 2 (by kernel_rfl)).trans rfl
        clear hd hq
        obtain ⟨⟨c0, c1, c2, c3⟩, ok⟩ := KM2.out w' hI
        refine op_value (wanted_free _ _ (by rfl)) (v := .agg #[.int .i64 3, .string ⟨#[116]⟩, .slice (some ⟨zb, 0, none⟩) 2 2, .string ⟨#[]⟩]) (w'' := w') ?_ (hK _ _ hI (fun _ _ h => h) (show PR _ _ from ⟨⟨3, [116], some ⟨zb, 0, none⟩, 2, [0, 1], []⟩, rfl, ok⟩))
        clear hK
        simp only [execOp, e2]
        have f2 := gdA e2
        clear e2 hI ok
        go_simp
      · intro a' w' K hI hd hq hK
        have e120 := hd 85 120 (by kernel_rfl)
        have e121 := hd 86 121 (by kernel_rfl)
        clear hd hq
        obtain ⟨m0, e120', ok0⟩ := (show PR (a'.eval (.tmp 120)) w' from e120)
        obtain ⟨m1, e121', ok1⟩ := (show PR (a'.eval (.tmp 121)) w' from e121)
        have hb := abA w' (.cells (rmc [m0, m1]).toArray 24)
        refine op_buildSlice (wanted_free _ _ (by rfl)) 29 24 2 _ rfl Try.underlying29 (rmc [m0, m1]).toArray (by simp only [List.map_toArray, List.map_cons, List.map_nil, e120', e121']; exact builtR2 m0 m1) ?_
        exact hK _ _ (bbA hI hb) (phi8_mono hb) (show PS 2 _ _ from PS.mk_ rfl (all2 ok0 ok1))
      · intro a' w' K hI hd hq hK
        have e122 := hd 87 122 (by kernel_rfl)
        clear hd hq
        obtain ⟨gS, msS, e122', hlS, hrS⟩ := (show PS 2 (a'.eval (.tmp 122)) w' from e122)
        refine op_call #[.int .i64 0, .slice (some ⟨gS, 0, none⟩) 2 2] (wanted_free _ _ (by rfl)) rfl Try.func9 (by kernel_rfl) rfl (by simp [e122']; rfl) ?_
        refine (claim_b 0 (some ⟨gS, 0, none⟩) 2 2 msS w' hlS (by decide) hrS).mono ?_
        rintro e w6 ⟨x, _, rfl, _, _, _, _, hbt, hb⟩
        exact ⟨_, rfl, hK _ _ (bbA hI hb) (phi8_mono hb) (show PC _ _ from ⟨x, rfl, hbt⟩)⟩
      · intro a' w' K hI hd hq hK
        have e1 : a'.eval (.tmp 1) = .pointer (some ⟨g1, 0, none⟩) := (hq 1 (by kernel_rfl)).trans rfl
        clear hd hq
        obtain ⟨⟨c0, c1, c2, c3⟩, ok⟩ := KM1.out w' hI
        refine op_value (wanted_free _ _ (by rfl)) (v := .agg #[.int .i64 2, .string ⟨#[116]⟩, .slice (some ⟨za, 0, none⟩) 2 2, .string ⟨#[]⟩]) (w'' := w') ?_ (hK _ _ hI (fun _ _ h => h) (show PR _ _ from ⟨⟨2, [116], some ⟨za, 0, none⟩, 2, [0, 1], []⟩, rfl, ok⟩))
        clear hK
        simp only [execOp, e1]
        have f1 := gdA e1
        clear e1 hI ok
        go_simp
      · intro a' w' K hI hd hq hK
        have e4 : a'.eval (.tmp 4) = .pointer (some ⟨g4, 0, none⟩) := (hq 4 (by kernel_rfl)).trans rfl
        clear hd hq
        obtain ⟨⟨c0, c1, c2, c3⟩, ok⟩ := KM4.out w' hI
        refine op_value (wanted_free _ _ (by rfl)) (v := .agg #[.int .i64 4, .string ⟨#[116]⟩, .slice none 0 0, .string ⟨#[]⟩]) (w'' := w') ?_ (hK _ _ hI (fun _ _ h => h) (show PR _ _ from ⟨⟨4, [116], none, 0, [], []⟩, rfl, ok⟩))
        clear hK
        simp only [execOp, e4]
        have f4 := gdA e4
        clear e4 hI ok
        go_simp
      · intro a' w' K hI hd hq hK
        have e124 := hd 89 124 (by kernel_rfl)
        have e125 := hd 90 125 (by kernel_rfl)
        clear hd hq
        obtain ⟨m0, e124', ok0⟩ := (show PR (a'.eval (.tmp 124)) w' from e124)
        obtain ⟨m1, e125', ok1⟩ := (show PR (a'.eval (.tmp 125)) w' from e125)
        have hb := abA w' (.cells (rmc [m0, m1]).toArray 24)
        refine op_buildSlice (wanted_free _ _ (by rfl)) 29 24 2 _ rfl Try.underlying29 (rmc [m0, m1]).toArray (by simp only [List.map_toArray, List.map_cons, List.map_nil, e124', e125']; exact builtR2 m0 m1) ?_
        exact hK _ _ (bbA hI hb) (phi8_mono hb) (show PS 2 _ _ from PS.mk_ rfl (all2 ok0 ok1))
      · intro a' w' K hI hd hq hK
        have e126 := hd 91 126 (by kernel_rfl)
        clear hd hq
        obtain ⟨gS, msS, e126', hlS, hrS⟩ := (show PS 2 (a'.eval (.tmp 126)) w' from e126)
        refine op_call #[.int .i64 1, .slice (some ⟨gS, 0, none⟩) 2 2] (wanted_free _ _ (by rfl)) rfl Try.func9 (by kernel_rfl) rfl (by simp [e126']; rfl) ?_
        refine (claim_b 1 (some ⟨gS, 0, none⟩) 2 2 msS w' hlS (by decide) hrS).mono ?_
        rintro e w6 ⟨x, _, rfl, _, _, _, _, hbt, hb⟩
        exact ⟨_, rfl, hK _ _ (bbA hI hb) (phi8_mono hb) (show PC _ _ from ⟨x, rfl, hbt⟩)⟩
      · intro a' w' K hI hd hq hK
        have e123 := hd 88 123 (by kernel_rfl)
        have e127 := hd 92 127 (by kernel_rfl)
        clear hd hq
        obtain ⟨x0, e123', ok0⟩ := (show PC (a'.eval (.tmp 123)) w' from e123)
        obtain ⟨x1, e127', ok1⟩ := (show PC (a'.eval (.tmp 127)) w' from e127)
        have hb := abA w' (.cells (clc [x0, x1]).toArray 27)
        refine op_buildSlice (wanted_free _ _ (by rfl)) 30 27 2 _ rfl Try.underlying30 (clc [x0, x1]).toArray (by simp only [List.map_toArray, List.map_cons, List.map_nil, e123', e127']; exact builtC2 x0 x1) ?_
        exact hK _ _ (bbA hI hb) (phi8_mono hb) (show PL 2 _ _ from PL.mk_ rfl (all2 ok0 ok1))
      · intro a' w' K hI hd hq hK
        have e36 := hd 1 36 (by kernel_rfl)
        have e41 := hd 6 41 (by kernel_rfl)
        have e45 := hd 10 45 (by kernel_rfl)
        have e49 := hd 14 49 (by kernel_rfl)
        have e54 := hd 19 54 (by kernel_rfl)
        have e64 := hd 29 64 (by kernel_rfl)
        have e78 := hd 43 78 (by kernel_rfl)
        have e84 := hd 49 84 (by kernel_rfl)
        have e90 := hd 55 90 (by kernel_rfl)
        have e95 := hd 60 95 (by kernel_rfl)
        have e101 := hd 66 101 (by kernel_rfl)
        have e105 := hd 70 105 (by kernel_rfl)
        have e114 := hd 79 114 (by kernel_rfl)
        have e119 := hd 84 119 (by kernel_rfl)
        have e128 := hd 93 128 (by kernel_rfl)
        clear hd hq
        obtain ⟨q0, L0, e36', hl0, hc0⟩ := (show PL 1 (a'.eval (.tmp 36)) w' from e36)
        obtain ⟨q1, L1, e41', hl1, hc1⟩ := (show PL 1 (a'.eval (.tmp 41)) w' from e41)
        obtain ⟨q2, L2, e45', hl2, hc2⟩ := (show PL 1 (a'.eval (.tmp 45)) w' from e45)
        obtain ⟨q3, L3, e49', hl3, hc3⟩ := (show PL 1 (a'.eval (.tmp 49)) w' from e49)
        obtain ⟨q4, L4, e54', hl4, hc4⟩ := (show PL 1 (a'.eval (.tmp 54)) w' from e54)
        obtain ⟨q5, L5, e64', hl5, hc5⟩ := (show PL 2 (a'.eval (.tmp 64)) w' from e64)
        obtain ⟨q6, L6, e78', hl6, hc6⟩ := (show PL 3 (a'.eval (.tmp 78)) w' from e78)
        obtain ⟨q7, L7, e84', hl7, hc7⟩ := (show PL 1 (a'.eval (.tmp 84)) w' from e84)
        obtain ⟨q8, L8, e90', hl8, hc8⟩ := (show PL 1 (a'.eval (.tmp 90)) w' from e90)
        obtain ⟨q9, L9, e95', hl9, hc9⟩ := (show PL 1 (a'.eval (.tmp 95)) w' from e95)
        obtain ⟨q10, L10, e101', hl10, hc10⟩ := (show PL 1 (a'.eval (.tmp 101)) w' from e101)
        obtain ⟨q11, L11, e105', hl11, hc11⟩ := (show PL 1 (a'.eval (.tmp 105)) w' from e105)
        obtain ⟨q12, L12, e114', hl12, hc12⟩ := (show PL 2 (a'.eval (.tmp 114)) w' from e114)
        obtain ⟨q13, L13, e119', hl13, hc13⟩ := (show PL 1 (a'.eval (.tmp 119)) w' from e119)
        obtain ⟨q14, L14, e128', hl14, hc14⟩ := (show PL 2 (a'.eval (.tmp 128)) w' from e128)
        have hb := abA w' (.cells #[.slice (some ⟨q0, 0, none⟩) 1 1, .slice (some ⟨q1, 0, none⟩) 1 1, .slice (some ⟨q2, 0, none⟩) 1 1, .slice (some ⟨q3, 0, none⟩) 1 1, .slice (some ⟨q4, 0, none⟩) 1 1, .slice (some ⟨q5, 0, none⟩) 2 2, .slice (some ⟨q6, 0, none⟩) 3 3, .slice (some ⟨q7, 0, none⟩) 1 1, .slice (some ⟨q8, 0, none⟩) 1 1, .slice (some ⟨q9, 0, none⟩) 1 1, .slice (some ⟨q10, 0, none⟩) 1 1, .slice (some ⟨q11, 0, none⟩) 1 1, .slice (some ⟨q12, 0, none⟩) 2 2, .slice (some ⟨q13, 0, none⟩) 1 1, .slice (some ⟨q14, 0, none⟩) 2 2] 30)
        have hx := heap_alloc_new w' (.cells #[.slice (some ⟨q0, 0, none⟩) 1 1, .slice (some ⟨q1, 0, none⟩) 1 1, .slice (some ⟨q2, 0, none⟩) 1 1, .slice (some ⟨q3, 0, none⟩) 1 1, .slice (some ⟨q4, 0, none⟩) 1 1, .slice (some ⟨q5, 0, none⟩) 2 2, .slice (some ⟨q6, 0, none⟩) 3 3, .slice (some ⟨q7, 0, none⟩) 1 1, .slice (some ⟨q8, 0, none⟩) 1 1, .slice (some ⟨q9, 0, none⟩) 1 1, .slice (some ⟨q10, 0, none⟩) 1 1, .slice (some ⟨q11, 0, none⟩) 1 1, .slice (some ⟨q12, 0, none⟩) 2 2, .slice (some ⟨q13, 0, none⟩) 1 1, .slice (some ⟨q14, 0, none⟩) 2 2] 30)
        refine op_buildSlice (wanted_free _ _ (by rfl)) 31 30 15 _ rfl Try.underlying31 #[.slice (some ⟨q0, 0, none⟩) 1 1, .slice (some ⟨q1, 0, none⟩) 1 1, .slice (some ⟨q2, 0, none⟩) 1 1, .slice (some ⟨q3, 0, none⟩) 1 1, .slice (some ⟨q4, 0, none⟩) 1 1, .slice (some ⟨q5, 0, none⟩) 2 2, .slice (some ⟨q6, 0, none⟩) 3 3, .slice (some ⟨q7, 0, none⟩) 1 1, .slice (some ⟨q8, 0, none⟩) 1 1, .slice (some ⟨q9, 0, none⟩) 1 1, .slice (some ⟨q10, 0, none⟩) 1 1, .slice (some ⟨q11, 0, none⟩) 1 1, .slice (some ⟨q12, 0, none⟩) 2 2, .slice (some ⟨q13, 0, none⟩) 1 1, .slice (some ⟨q14, 0, none⟩) 2 2] (by simp only [List.map_toArray, List.map_cons, List.map_nil, e36', e41', e45', e49', e54', e64', e78', e84', e90', e95', e101', e105', e114', e119', e128']; kernel_rfl) ?_
        refine hK _ _ (bbA hI hb) (phi8_mono hb) (show P15 _ _ from ⟨w'.heap.size, rfl, fun j hj => ?_⟩)
        match j, hj with
        | 0, _ => exact ⟨_, _, L0, by omega, by rw [hl0]; exact (cell_of_row _ _ 0 _ _ _ hx).trans rfl, hc0.below hb⟩
        | 1, _ => exact ⟨_, _, L1, by omega, by rw [hl1]; exact (cell_of_row _ _ 1 _ _ _ hx).trans rfl, hc1.below hb⟩
        | 2, _ => exact ⟨_, _, L2, by omega, by rw [hl2]; exact (cell_of_row _ _ 2 _ _ _ hx).trans rfl, hc2.below hb⟩
        | 3, _ => exact ⟨_, _, L3, by omega, by rw [hl3]; exact (cell_of_row _ _ 3 _ _ _ hx).trans rfl, hc3.below hb⟩
        | 4, _ => exact ⟨_, _, L4, by omega, by rw [hl4]; exact (cell_of_row _ _ 4 _ _ _ hx).trans rfl, hc4.below hb⟩
        | 5, _ => exact ⟨_, _, L5, by omega, by rw [hl5]; exact (cell_of_row _ _ 5 _ _ _ hx).trans rfl, hc5.below hb⟩
        | 6, _ => exact ⟨_, _, L6, by omega, by rw [hl6]; exact (cell_of_row _ _ 6 _ _ _ hx).trans rfl, hc6.below hb⟩
        | 7, _ => exact ⟨_, _, L7, by omega, by rw [hl7]; exact (cell_of_row _ _ 7 _ _ _ hx).trans rfl, hc7.below hb⟩
        | 8, _ => exact ⟨_, _, L8, by omega, by rw [hl8]; exact (cell_of_row _ _ 8 _ _ _ hx).trans rfl, hc8.below hb⟩
        | 9, _ => exact ⟨_, _, L9, by omega, by rw [hl9]; exact (cell_of_row _ _ 9 _ _ _ hx).trans rfl, hc9.below hb⟩
        | 10, _ => exact ⟨_, _, L10, by omega, by rw [hl10]; exact (cell_of_row _ _ 10 _ _ _ hx).trans rfl, hc10.below hb⟩
        | 11, _ => exact ⟨_, _, L11, by omega, by rw [hl11]; exact (cell_of_row _ _ 11 _ _ _ hx).trans rfl, hc11.below hb⟩
        | 12, _ => exact ⟨_, _, L12, by omega, by rw [hl12]; exact (cell_of_row _ _ 12 _ _ _ hx).trans rfl, hc12.below hb⟩
        | 13, _ => exact ⟨_, _, L13, by omega, by rw [hl13]; exact (cell_of_row _ _ 13 _ _ _ hx).trans rfl, hc13.below hb⟩
        | 14, _ => exact ⟨_, _, L14, by omega, by rw [hl14]; exact (cell_of_row _ _ 14 _ _ _ hx).trans rfl, hc14.below hb⟩
      · intro a' w' K hI hd hq hK
        have e129 := hd 94 129 (by kernel_rfl)
        clear hd hq
        obtain ⟨g, e129', _⟩ := (show P15 (a'.eval (.tmp 129)) w' from e129)
        refine op_value (wanted_free _ _ (by rfl)) (v := .int .i64 15) (w'' := w') ?_ (hK _ _ hI (fun _ _ h => h) rfl)
        clear hK hI
        simp only [execOp, e129']
        have f129 : a'.tmps[129]?.getD undef = .slice (some ⟨g, 0, none⟩) 15 15 := (Array.getD_eq_getD_getElem? ..).symm.trans e129'
        clear e129 e129'
        go_simp
      · intro a' w' K hI hd hq hK
        clear hd hq
        refine op_value (wanted_free _ _ (by rfl)) (v := .int .i64 0) (w'' := w') ?_ (hK _ _ hI (fun _ _ h => h) rfl)
        clear hK hI
        simp only [execOp]
        go_simp
    case fin8 =>
      rintro w' hI _ _ _ _ _ _ _ _ _ _ _ _ _ _ _ _ _ _ _ _ _ _ _ _ _ _ _ _ _ _ _ _ _ _ _ _ _ _ _ _ _ _ _ _ _ _ _ _ _ _ _ _ _ _ _ _ _ _ _ _ _ _ _ _ _ _ _ _ _ _ _ _ _ _ _ _ _ _ _ _ _ _ _ _ _ _ _ _ _ _ _ _ _ _ _ _ _ _ _ _ _ _ _ _ _ _ _ _ _ _ _ _ _ _ _ _ _ _ _ _ _ _ _ _ _ _ _ _ _ _ _ _ _ _ _ _ _ _ _ _ _ _ _ _ _ _ _ _ _ _ _ _ _ _ _ _ _ _ _ _ _ _ _ _ _ _ _ _ _ _ _ _ _ _ _ _ _ _ _ _ _ _ _ _ _ _ _ _ _ h129 _ rfl _ rfl
      simp only [Act.put, List.setIfInBounds_toArray, List.set_cons_zero, List.set_cons_succ, FinGoal]
      obtain ⟨g, rfl, hrows⟩ := h129
      have HROWS := Lib.hid hrows
      have HBN := Lib.hid hI
      clear hI hrows
      go_wp2_with fail
      go_meet
      exact ⟨rfl, rfl, g, rfl, HROWS.out, HBN.out⟩

  case rest =>
    obtain ⟨rfl, rfl, g, rfl, hrows, hb⟩ := hcut
    rename World => wN
    have HROWS := Lib.hid hrows
    have HBW := Lib.hid (show Below w.heap.size w wN from below_below (below_below XB.out XB.out.size B87.out) (by have := XB.out.size; have := B87.out.size; omega) hb)
    clear hrows hb
    go_wp2_with fail
    go_loopg [131] 15 (fun k s131 wr => ∃ i : Nat, i ≤ 15 ∧ k = 15 - i ∧ s131 = .int .i64 (i : Int) ∧ Below wN.heap.size wN wr)
    case atStart => exact ⟨0, by omega, rfl, rfl, Below.refl _ _⟩
    case round =>
      obtain ⟨i, hi, hk, rfl, hb⟩ := hrel
      have HK := Lib.hid hk
      have HB := Lib.hid hb
      clear hk hb
      by_cases hlt : i < 15
      · obtain ⟨A, c, L, hL, hcell, hcls⟩ := (HROWS.out.below HB.out) i hlt
        have hi0 : (0 : Int) ≤ (i : Int) := by omega
        have hi1 : (i : Int) < 15 := by omega
        have HL := Lib.hid hL
        have HCLS := Lib.hid hcls
        have HLT := Lib.hid hlt
        clear hL hcls hlt hi
        go_wp2_with fail
        refine (verify_p A L.length c L wr rfl (by have := HL.out; omega) HCLS.out).mono ?_
        obtain ⟨f, hf⟩ : ∃ f, f = verP (L.map Cl.p) := ⟨_, rfl⟩
        rw [← hf]
        have HF := Lib.hid hf
        obtain ⟨f0, f1, f2⟩ := f
        dsimp only
        rintro e w2 ⟨rfl, hb2⟩
        have hb3 : Below w2.heap.size w2 (w2.alloc (.cells #[.int .i64 f0, .int .i64 f1, .int .i64 f2] 33)) := (Below.refl _ _).alloc (Nat.le_refl _) _
        have hx3 := heap_alloc_new w2 (.cells #[.int .i64 f0, .int .i64 f1, .int .i64 f2] 33)
        obtain ⟨w3, hw3⟩ : ∃ w3, w3 = w2.alloc (.cells #[.int .i64 f0, .int .i64 f1, .int .i64 f2] 33) := ⟨_, rfl⟩
        rw [← hw3] at hb3 hx3
        obtain ⟨n2, hn2⟩ : ∃ n2, n2 = w2.heap.size := ⟨_, rfl⟩
        rw [← hn2] at hx3
        have B3 := Lib.hid (below_below hb2 hb2.size hb3)
        have KA := Lib.hid (show ∀ W, Below w3.heap.size w3 W → W.cell? ⟨n2, 0, none⟩ = some (.int .i64 f0) ∧ W.cell? ⟨n2, 1, none⟩ = some (.int .i64 f1) ∧ W.cell? ⟨n2, 2, none⟩ = some (.int .i64 f2) from fun W hW =>
          ⟨cell_below hW ((cell_of_row w3 n2 0 _ _ _ hx3).trans rfl), cell_below hW ((cell_of_row w3 n2 1 _ _ _ hx3).trans rfl), cell_below hW ((cell_of_row w3 n2 2 _ _ _ hx3).trans rfl)⟩)
        have HW3 := Lib.hid hw3
        have HN2 := Lib.hid hn2
        clear hf hb2 hb3 hx3 hw3 hn2 hcell
        go_upto_region 12 with fail
        rw [show w2.alloc (.cells #[.int .i64 f0, .int .i64 f1, .int .i64 f2] 33) = w3 from HW3.out.symm, ← HN2.out]
        go_wp2_with fail
        refine (in_any A L.length c L w3 rfl (by have := HL.out; omega) (HCLS.out.below B3.out)).mono ?_
        rintro e w4 ⟨A4, c4, L4, rfl, hgl, hc4, hcap4, hb4⟩
        have HGL := Lib.hid hgl
        have HC4 := Lib.hid hc4
        have HCAP4 := Lib.hid hcap4
        have B34 := Lib.hid hb4
        have HL4 := Lib.hid (show L4.length ≤ 10 by have h := congrArg List.length hgl; simp at h; have := HL.out; omega)
        clear hgl hc4 hcap4 hb4
        go_wp2_with fail
        refine (refVerify_any A4 L4.length c4 L4 w4 rfl (by have := HL4.out; omega) HC4.out HCAP4.out).mono ?_
        rw [gl_p HGL.out, ← HF.out]
        dsimp only
        rintro e w5 ⟨rfl, hb5⟩
        have hb6 : Below w5.heap.size w5 (w5.alloc (.cells #[.int .i64 f0, .int .i64 f1, .int .i64 f2] 36)) := (Below.refl _ _).alloc (Nat.le_refl _) _
        have hx6 := heap_alloc_new w5 (.cells #[.int .i64 f0, .int .i64 f1, .int .i64 f2] 36)
        obtain ⟨w6, hw6⟩ : ∃ w6, w6 = w5.alloc (.cells #[.int .i64 f0, .int .i64 f1, .int .i64 f2] 36) := ⟨_, rfl⟩
        rw [← hw6] at hb6 hx6
        obtain ⟨n5, hn5⟩ : ∃ n5, n5 = w5.heap.size := ⟨_, rfl⟩
        rw [← hn5] at hx6
        have B36 := Lib.hid (below_below B34.out B34.out.size (below_below hb5 hb5.size hb6))
        have B6 := Lib.hid (below_below B3.out B3.out.size B36.out)
        have HW6 := Lib.hid hw6
        have HN5 := Lib.hid hn5
        have HX6 := Lib.hid hx6
        clear hb5 hb6 hx6 hw6 hn5
        go_upto_region 13 with fail
        rw [show w5.alloc (.cells #[.int .i64 f0, .int .i64 f1, .int .i64 f2] 36) = w6 from HW6.out.symm, ← HN5.out]
        obtain ⟨k0, k1, k2⟩ := KA.out w6 B36.out
        have j0 : w6.cell? ⟨n5, 0, none⟩ = some (.int .i64 f0) := (cell_of_row w6 n5 0 _ _ _ HX6.out).trans rfl
        have j1 : w6.cell? ⟨n5, 1, none⟩ = some (.int .i64 f1) := (cell_of_row w6 n5 1 _ _ _ HX6.out).trans rfl
        have j2 : w6.cell? ⟨n5, 2, none⟩ = some (.int .i64 f2) := (cell_of_row w6 n5 2 _ _ _ HX6.out).trans rfl
        generalize (f0 == 0) = bq at *
        go_wp2_with fail
        refine (outcomes_any A L.length c L [116] w6 rfl (by have := HL.out; omega) (HCLS.out.below B6.out)).mono ?_
        rintro e w7' ⟨Ao, co, rfl, hb7, ho7⟩
        have B7 := Lib.hid (below_below B6.out B6.out.size hb7)
        have HO7 := Lib.hid ho7
        clear hb7 ho7 k0 k1 k2 j0 j1 j2
        go_wp2_with fail
        refine (in_any A L.length c L w7' rfl (by have := HL.out; omega) (HCLS.out.below B7.out)).mono ?_
        rintro e w8' ⟨A8, c8, L8, rfl, hgl, hc8, hcap8, hb8⟩
        have HGL8 := Lib.hid hgl
        have HC8 := Lib.hid hc8
        have HCAP8 := Lib.hid hcap8
        have B8 := Lib.hid (below_below B7.out B7.out.size hb8)
        have HO8 := Lib.hid (HO7.out.below hb8)
        have HL8 := Lib.hid (show L8.length ≤ 10 by have h := congrArg List.length hgl; simp at h; have := HL.out; omega)
        clear hgl hc8 hcap8 hb8
        go_wp2_with fail
        refine (refOutcomes_any A8 L8.length c8 L8 [116] w8' rfl (by have := HL8.out; omega) HC8.out HCAP8.out).mono ?_
        rw [gl_out HGL8.out [116]]
        rintro e w9' ⟨Ap, cp, rfl, hb9, ho9⟩
        have B9 := Lib.hid (below_below B8.out B8.out.size hb9)
        have HO9 := Lib.hid (HO8.out.below hb9)
        have HOP := Lib.hid ho9
        have HOL := Lib.hid (show (outS [116] L).length ≤ 100000000 by unfold outS; split <;> split <;> simp)
        clear hb9 ho9
        generalize outS [116] L = zo at *
        go_wp2_with fail
        refine (sameI_any Ao Ap zo.length zo.length co cp zo zo w9' rfl rfl HOL.out HO9.out HOP.out).mono ?_
        rw [decide_eq_true (rfl : zo = zo)]
        rintro e wA ⟨rfl, hbA⟩
        have BA := Lib.hid (below_below HB.out HB.out.size (below_below B9.out B9.out.size hbA))
        clear hbA
        go_wp2_with fail
        go_roundg (15 - (i + 1))
        case measure => have := HK.out; have := HLT.out; omega
        case rel => exact ⟨i + 1, HLT.out, rfl, by go_num, BA.out⟩
      · obtain rfl : i = 15 := by omega
        have BE := Lib.hid (below_below HBW.out HBW.out.size HB.out)
        clear hlt hi
        go_wp2_with fail
        refine (known_any wr).mono ?_
        rintro e w9' ⟨rfl, hb9⟩
        have BE9 := Lib.hid (below_below BE.out BE.out.size hb9)
        clear hb9
        go_wp2_with fail
        go_ret
        exact ⟨rfl, BE9.out⟩
end Go.Proofs.Ytjakhemolecbnaa
end
