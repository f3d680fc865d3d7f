/-
  The texts RefVerify of this proof in one (what is used of them): what each proves is said at its head. No conditions beyond those that each theorem says.
-/
import Derived.Deep.CutBlock
import Derived.Test.YtjakhemolecbnaaNK5
import Derived.Test.YtjakhemolecbnaaNL2
import Derived.Test.YtjakhemolecbnaaNL

/-
  The walk of the reference's Verify.
-/
section
set_option linter.unusedVariables false
set_option linter.unusedSimpArgs false
namespace Go.Proofs.Ytjakhemolecbnaa
open Go.RowKit

theorem infoRcl : (Try.prog.info? 85).map (fun i => (i.zero, i.size, i.bytes)) = some (some (.agg #[.slice none 0 0, .slice none 0 0]), 2, 48) := by kernel_rfl
theorem infoFt : (Try.prog.info? 36).map (·.size) = some 3 := by kernel_rfl
theorem three_set {w : World} {g : Nat} {cs : Array Value} {t : TypeId} {fr : Nat × Nat} (h : w.heap[g]? = some (.cells cs t fr)) (hc : cs.size = 3) (u0 u1 u2 : Value) (W : World) (hW : W = ((w.setCell ⟨g, 0, none⟩ u0).setCell ⟨g, 1, none⟩ u1).setCell ⟨g, 2, none⟩ u2) : W.heap[g]? = some (.cells #[u0, u1, u2] t fr) ∧ Upd (fun k => k = g) w W := by
  subst hW
  refine ⟨?_, (((Upd.refl (fun k => k = g) w).setCell (p := ⟨g, 0, none⟩) (fun _ => rfl) _).setCell (p := ⟨g, 1, none⟩) (fun _ => rfl) _).setCell (p := ⟨g, 2, none⟩) (fun _ => rfl) _⟩
  rw [setCell_at (setCell_at (setCell_at h _) _) _]
  obtain ⟨l⟩ := cs
  match l, hc with
  | [a, b, c], _ => rfl
/-- A claim that is decoded, its records not yet read. -/
structure RlG (w : World) (B : Nat) (v : Value) (x : Rc) : Prop where
  rc : RC w x.lA (lv x.M)
  off : 0 < (lv x.M).length → ∀ ad, x.lA = some ad → B ≤ ad.block ∧ ad.block < w.heap.size ∧ v.ownBlock ≠ some ad.block
  hh : ∀ y ∈ x.M, y.2.length = 32
  ht : ∀ y ∈ x.M, y.1.length ≤ 4000
  lM : x.M.length ≤ 4096
  e : x.recs = [] ∧ x.rA = none ∧ x.rc = 0
theorem RlG.upd {F : Nat → Prop} {w w' : World} {B : Nat} {v : Value} {x : Rc} (h : RlG w B v x) (u : Upd F w w') (hF : 0 < (lv x.M).length → ∀ ad, x.lA = some ad → ¬ F ad.block) : RlG w' B v x :=
  ⟨RC.upd h.rc u hF, fun h0 ad e => ⟨(h.off h0 ad e).1, Nat.lt_of_lt_of_le (h.off h0 ad e).2.1 u.size, (h.off h0 ad e).2.2⟩, h.hh, h.ht, h.lM, h.e⟩
theorem RlG.below {w w' : World} {B : Nat} {v : Value} {x : Rc} (h : RlG w B v x) (hb : Below w.heap.size w w') : RlG w' B v x := h.upd (Upd.of_below (F := fun _ => False) hb) (fun _ _ _ => id)
structure RcG (w : World) (B : Nat) (v : Value) (rs : List Rc) : Prop where
  own : w.ownsRow B 85 2 v rs.length (rcc rs)
  b : ∀ x ∈ rs, RlG w B v x
theorem RcG.nil (w : World) (B : Nat) : RcG w B (.slice none 0 0) [] := ⟨World.ownsRow_nil _ _ _ _, (fun m hm => by cases hm)⟩
theorem RcG.below {w w' : World} {B : Nat} {v : Value} {rs : List Rc} (h : RcG w B v rs) (hb : Below w.heap.size w w') : RcG w' B v rs := ⟨own_below h.own hb, fun m hm => (h.b m hm).below hb⟩
theorem RcG.push {w W : World} {B k0 : Nat} {v v' : Value} {rs : List Rc} {x : Rc} (h : RcG w B v rs) (hm : RlG w B v x) (ho : W.ownsRow B 85 2 v' (rs.length + 1) (rcc rs ++ x.cells)) (hu : Upd (fun k => v.ownBlock = some k) w W) (hat : v'.ownBlock = v.ownBlock ∨ v'.ownBlock = some k0) (hk : w.heap.size ≤ k0) : RcG W B v' (rs ++ [x]) := by
  refine ⟨?_, fun q hq => ?_⟩
  · rw [rcc_append, List.length_append, show rcc [x] = x.cells by simp [rcc]]
    exact ho
  · have h9 : RlG w B v q := by
      rcases List.mem_append.1 hq with h1 | h1
      · exact h.b q h1
      · rw [List.mem_singleton.1 h1]; exact hm
    have h10 := h9.upd hu (fun h0 ad e => (h9.off h0 ad e).2.2)
    refine ⟨h10.rc, fun h0 ad e => ⟨(h10.off h0 ad e).1, (h10.off h0 ad e).2.1, fun h5 => ?_⟩, h10.hh, h10.ht, h10.lM, h10.e⟩
    rcases hat with h | h
    · exact (h9.off h0 ad e).2.2 (h.symm.trans h5)
    · rw [h] at h5
      have h6 := Option.some.inj h5
      have h7 := (h9.off h0 ad e).2.1
      omega
/-- append(cs, claim{links: links}) -/
theorem append_rcl {P' : Program} (hP : P' = Try.prog) {ops : Array Oper} {rest : List Oper} {o : Oper} {a : Act} {Q : Exit → Act → World → Prop} {w : World} (hgd : o.guard = none) (s x : Operand)
    (ho : o.op = .call { callee := .builtin .append, args := #[s, x], argTypes := #[79, 79] })
    (w0 : World) (B : Nat) (v : Value) (rs : List Rc) (y : Rc) (hs : a.eval s = v) (hx : a.eval x = .slice (some ⟨w0.heap.size, 0, none⟩) 1 1) (hw : w = w0.alloc (.cells y.cells.toArray 85))
    (hR : RcG w0 B v rs) (hm : RlG w0 B v y) (hB : B ≤ w0.heap.size) (hl : rs.length ≤ 100000000)
    (h : ∀ v' w', RcG w' B v' (rs ++ [y]) → Upd (fun k => v.ownBlock = some k) w0 w' → wpList P' ops Q rest (a.put o.dst v') w') :
    wpList P' ops Q (o :: rest) a w := by
  subst hw
  subst hP
  have h1 : ∀ u ∈ y.cells, u.oneCell' = true := by
    intro u hu
    simp only [Rc.cells, List.mem_cons, List.not_mem_nil, or_false] at hu
    rcases hu with rfl | rfl <;> rfl
  refine append_any hgd s x 79 ho B 85 (.agg #[.slice none 0 0, .slice none 0 0]) 2 48 Try.underlying79 infoRcl rfl (by omega) (by omega) v rs.length (rcc rs) hs (hR.own.alloc _) _ 1 1 y.cells hx rfl (RC_newL _ y.cells 85) h1 (by omega) (by simp; omega) ?_
  intro v' w' ho' hg' hat'
  have hua : Upd (fun k => v.ownBlock = some k) w0 w' := ((Upd.refl _ w0).alloc _).grown hg' (fun k hk _ => hk)
  exact h v' w' (hR.push hm ho' hua hat' (by simp)) hua
/-- A claim that is read, off the row's block. -/
structure RF (w : World) (gc : Nat) (x : Rc) : Prop where
  at_ : RcAt w x
  ol : 0 < (lv x.M).length → ∀ ad, x.lA = some ad → ad.block ≠ gc
  or_ : 0 < (rmc x.recs).length → ∀ ad, x.rA = some ad → ad.block ≠ gc
  og : ∀ m ∈ x.recs, 0 < (m.groups.map (Value.int .i64)).length → ∀ ad, m.A = some ad → ad.block ≠ gc
theorem RF.upd {w w' : World} {gc : Nat} {x : Rc} (h : RF w gc x) (u : Upd (fun k => k = gc) w w') : RF w' gc x :=
  ⟨⟨RC.upd h.at_.l u h.ol, RC.upd h.at_.r u h.or_, fun m hm => ⟨RC.upd (h.at_.g m hm).1 u (h.og m hm), (h.at_.g m hm).2⟩, h.at_.hh, h.at_.ht, h.at_.lM, h.at_.lR⟩, h.ol, h.or_, h.og⟩
theorem rcc_set (l : List Rc) (i : Nat) (hi : i < l.length) (A : Option Addr) (c : Nat) (ms : List Rm) : (rcc l).set (i * 2 + 1) (.slice A ms.length c) = rcc (l.set i ⟨l[i].lA, l[i].lc, l[i].M, A, c, ms⟩) := by
  have h1 : l = l.take i ++ l[i] :: l.drop (i + 1) := by
    conv => lhs; rw [← List.take_append_drop i l, List.drop_eq_getElem_cons hi]
  have h2 : rcc l = rcc (l.take i) ++ (l[i].cells ++ rcc (l.drop (i + 1))) := by
    refine (congrArg rcc h1).trans ?_
    rw [rcc_append]
    rfl
  have h3 : (rcc (l.take i)).length = i * 2 := by rw [rcc_length, List.length_take]; omega
  have h4 : l.set i ⟨l[i].lA, l[i].lc, l[i].M, A, c, ms⟩ = l.take i ++ ⟨l[i].lA, l[i].lc, l[i].M, A, c, ms⟩ :: l.drop (i + 1) := List.set_eq_take_append_cons_drop .. |>.trans (by rw [if_pos hi])
  rw [h2, h4, rcc_append, List.set_append_right _ _ (by omega), h3, Nat.add_sub_cancel_left]
  rfl
/-- Which world there is, by what is done. -/
def wAt3 (wa wb wc wd : World) (l : Array Bool) : World := if l.getD 12 false = true then wd else if l.getD 9 false = true then wc else if l.getD 8 false = true then wb else wa
structure TK (wa wb wc wd : World) (l : Array Bool) (W : World) : Prop where
  eq : W = wAt3 wa wb wc wd l
theorem TK.set {wa wb wc wd : World} {l : Array Bool} {W : World} (h : TK wa wb wc wd l W) (j : Nat) (hj : j ≠ 8 ∧ j ≠ 9 ∧ j ≠ 12 := by decide) : TK wa wb wc wd (l.setIfInBounds j true) W := by
  constructor
  rw [h.eq]
  unfold wAt3
  rw [getD_setN l (Ne.symm hj.1), getD_setN l (Ne.symm hj.2.1), getD_setN l (Ne.symm hj.2.2)]
theorem rs_second {L : List Cl} {i : Nat} {x : Cl} (hx : L[i]? = some x) {M : Lks} (hd : decS x.l = .inr M) (hw : (recsOf M).2 = false) (hp : ∀ (k : Nat) (y : Cl), L[k]? = some y → ∃ M, decS y.l = .inr M ∧ (k < i → (recsOf M).2 = true)) : verP (L.map Cl.p) = (2, (i : Int), ((recsOf M).1.length : Int)) := by
  have e : x.p = ⟨x.g, M, true, (recsOf M).1, (recsOf M).2, if (recsOf M).2 then 0 else ((recsOf M).1.length : Int)⟩ := by
    show claimP x.g x.l = _
    unfold claimP
    rw [hd]
  have hl : ∀ (j : Nat) (d : Cp), (L.map Cl.p)[j]? = some d → d.lt = true ∧ (j < i → d.whole = true) := by
    intro j d hdj
    rw [List.getElem?_map] at hdj
    obtain ⟨y, hy, rfl⟩ := Option.map_eq_some_iff.1 hdj
    obtain ⟨M', hM, hw'⟩ := hp j y hy
    show (claimP y.g y.l).lt = true ∧ (j < i → (claimP y.g y.l).whole = true)
    unfold claimP
    rw [hM]
    exact ⟨rfl, hw'⟩
  have h := ver_second (P := L.map Cl.p) (i := i) (c := x.p) (by rw [List.getElem?_map, hx]; rfl) (fun d hd => by
    obtain ⟨j, hj⟩ := List.mem_iff_getElem?.1 hd
    exact (hl j d hj).1) (by rw [e]; exact hw) (fun j d hj hdj => (hl j d hdj).2 hj)
  rw [h, e, hw]
  rfl
/-- The claims' groups. -/
def gOf (L : List Cl) (k : Nat) : Int := match L[k]? with | some y => y.g | none => 0
theorem par_of {L : List Cl} {cs : List Rc} (hl : cs.length = L.length) (h : ∀ (k : Nat) (y : Cl), L[k]? = some y → ∃ x, cs[k]? = some x ∧ decS y.l = .inr x.M ∧ recsOf x.M = (x.recs.map Rm.p, true)) : Par (L.map Cl.p) (gOf L) cs := by
  refine ⟨by rw [List.length_map, hl], fun k c hc => ?_⟩
  have hk : k < L.length := by rw [← hl]; exact (List.getElem?_eq_some_iff.1 hc).1
  have ey := List.getElem?_eq_getElem hk
  obtain ⟨x, h1, h2, h3⟩ := h k _ ey
  rw [hc] at h1
  cases h1
  rw [List.getElem?_map, ey]
  show some (claimP L[k].g L[k].l) = _
  unfold claimP gOf
  rw [ey, h2]
  dsimp only
  rw [h3]
  rfl
theorem breaks_told {P : List Cp} {g : Nat → Int} {cs : List Rc} (hp : Par P g cs) (r : Int) (bl ol ln lc : Nat) (A : Option Addr) (n ca i : Nat) (c : Rc) (w : World) (hr37 : 3 ≤ r ∧ r ≤ 7) (hl : cs.length = n) (hln : cs.length ≤ ln) (hG : ∀ k, k < cs.length → w.cell? ⟨bl, ol + k * 2, none⟩ = some (.int .i64 (g k))) (hr : RcsAt w A cs) (hc : cs[i]? = some c) :
    Calls Try.prog 35 #[.slice (some ⟨bl, ol, none⟩) ln lc, .slice A n ca, .int .i64 r, .int .i64 (i : Int)] w fun e w' => ∃ x : Int, e = .returned (.int .i64 x) ∧ told (fun f => f ∈ faults P) r i x ∧ Below w.heap.size w w' := by
  have hi := (List.getElem?_eq_some_iff.1 hc).1
  by_cases h3 : r = 3
  · subst h3
    refine (breaks3_any g bl ol ln lc A n ca cs i c w hl hln hG hr hc).mono ?_
    rintro e w' ⟨x, rfl, hx, hb⟩
    exact ⟨x, rfl, told3 hp hc hx, hb⟩
  · refine (breaks_any r bl ol ln lc (g i) A n ca cs i c w (by omega) hl (by omega) (hG i hi) hr hc).mono ?_
    rintro e w' ⟨x, rfl, hx, hb⟩
    exact ⟨x, rfl, told4 hp hc (by omega) hx, hb⟩
theorem infoRecRfA : (Try.prog.info? 55).map (fun i => (i.zero, i.size, i.bytes)) = some (some (.agg recZ), 4, 64) := by kernel_rfl
/-- Records of the reference's own, in a row that grows. -/
structure RecsR (w : World) (B : Nat) (v : Value) (ms : List Rm) : Prop where
  own : w.ownsRow B 55 4 v ms.length (rmc ms)
  gi : ∀ m ∈ ms, GI w B v m
theorem RecsR.nil (w : World) (B : Nat) : RecsR w B (.slice none 0 0) [] := ⟨World.ownsRow_nil _ _ _ _, fun m hm => by cases hm⟩
theorem RecsR.below {w w' : World} {B : Nat} {v : Value} {ms : List Rm} (h : RecsR w B v ms) (hb : Below w.heap.size w w') : RecsR w' B v ms := ⟨own_below h.own hb, fun m hm => (h.gi m hm).below hb⟩
theorem RecsR.push {w W : World} {B k0 : Nat} {v v' : Value} {ms : List Rm} {m : Rm} (h : RecsR w B v ms) (hm : GI w B v m) (ho : W.ownsRow B 55 4 v' (ms.length + 1) (rmc ms ++ m.cells)) (hu : Upd (fun k => v.ownBlock = some k) w W) (hat : v'.ownBlock = v.ownBlock ∨ v'.ownBlock = some k0) (hk : w.heap.size ≤ k0) : RecsR W B v' (ms ++ [m]) := by
  constructor
  · rw [rmc_append, List.length_append, show rmc [m] = m.cells by simp [rmc]]
    exact ho
  · intro q hq
    have h9 : GI w B v q := by
      rcases List.mem_append.1 hq with h1 | h1
      · exact h.gi q h1
      · rw [List.mem_singleton.1 h1]; exact hm
    have h10 := h9.upd hu (fun h0 ad e => (h9.2.2 h0 ad e).2.2)
    refine ⟨h10.1, h10.2.1, fun h0 ad e => ⟨(h10.2.2 h0 ad e).1, (h10.2.2 h0 ad e).2.1, fun h5 => ?_⟩⟩
    rcases hat with h | h
    · exact (h9.2.2 h0 ad e).2.2 (h.symm.trans h5)
    · rw [h] at h5
      have h6 := Option.some.inj h5
      have h7 := (h9.2.2 h0 ad e).2.1
      omega
theorem RecsR.upd {F : Nat → Prop} {w w' : World} {B : Nat} {v : Value} {ms : List Rm} (h : RecsR w B v ms) (u : Upd F w w') (hF : ∀ k, F k → k < B) : RecsR w' B v ms :=
  ⟨own_upd h.own u (fun k hk e => by have := (World.ownsRow.lt h.own k hk).1; have := hF k e; omega), fun m hm => (h.gi m hm).upd u (fun h0 ad e hk => by have := ((h.gi m hm).2.2 h0 ad e).1; have := hF _ hk; omega)⟩
theorem rs_found {L : List Cl} {i : Nat} {x : Cl} (hx : L[i]? = some x) {why en : Int} (hd : decS x.l = .inl (why, en)) (hp : ∀ (k : Nat) (y : Cl), k < i → L[k]? = some y → ∃ M, decS y.l = .inr M) : verP (L.map Cl.p) = (1, (i : Int), en) := by
  have e : x.p = ⟨x.g, [], false, [], false, en⟩ := by
    show claimP x.g x.l = _
    unfold claimP
    rw [hd]
  have h := ver_first (P := L.map Cl.p) (i := i) (c := x.p) (by rw [List.getElem?_map, hx]; rfl) (by rw [e]) (fun j d hj hdj => by
    rw [List.getElem?_map] at hdj
    obtain ⟨y, hy, rfl⟩ := Option.map_eq_some_iff.1 hdj
    obtain ⟨M, hM⟩ := hp j y hj hy
    show (claimP y.g y.l).lt = true
    unfold claimP
    rw [hM])
  rw [h, e]

set_option maxRecDepth 100000 in
set_option maxHeartbeats 16000000 in
theorem refVerify_any (A : Option Addr) (n c : Nat) (L : List Cl) (w : World) (hl : L.length = n) (hn : n ≤ 1000) (hr : ClsAt w A L) (hcap : ∀ x ∈ L, x.l.length ≤ x.c) :
    Calls Try.prog 11 #[.slice A n c] w fun e w' => e = .returned (.tuple #[.agg #[.int .i64 (verP (L.map Cl.p)).1, .int .i64 (verP (L.map Cl.p)).2.1, .int .i64 (verP (L.map Cl.p)).2.2], .bool ((verP (L.map Cl.p)).1 == 0)]) ∧ Below w.heap.size w w' := by
  subst hl
  have hb1 : Below w.heap.size w (w.alloc (.cells #[.int .i64 0, .int .i64 0, .int .i64 0] 36)) := (Below.refl _ _).alloc (Nat.le_refl _) _
  have hx1 := heap_alloc_new w (.cells #[.int .i64 0, .int .i64 0, .int .i64 0] 36)
  have hs1 : (w.alloc (.cells #[.int .i64 0, .int .i64 0, .int .i64 0] 36)).heap.size = w.heap.size + 1 := by simp
  obtain ⟨w1, hw1⟩ : ∃ w1, w1 = w.alloc (.cells #[.int .i64 0, .int .i64 0, .int .i64 0] 36) := ⟨_, rfl⟩
  rw [← hw1] at hb1 hx1 hs1
  obtain ⟨bz, hbz⟩ : ∃ bz, bz = w.heap.size := ⟨_, rfl⟩
  rw [← hbz] at hx1
  have HB1 := Lib.hid hb1
  have HX1 := Lib.hid hx1
  have HS1 := Lib.hid hs1
  have HW1 := Lib.hid hw1
  have HBZ := Lib.hid hbz
  have HR := Lib.hid (hr.below hb1)
  have HCAP := Lib.hid hcap
  have hn1 : (L.length : Int) ≤ 1000 := by omega
  -- how a fault is told
  have HTELL := Lib.hid (show ∀ (wr : World) (f : Ft) (W : World), Below w1.heap.size w1 wr → verP (L.map Cl.p) = f → W = ((wr.setCell ⟨bz, 0, none⟩ (.int .i64 f.1)).setCell ⟨bz, 1, none⟩ (.int .i64 f.2.1)).setCell ⟨bz, 2, none⟩ (.int .i64 f.2.2) → W.heap[bz]? = some (.cells #[.int .i64 f.1, .int .i64 f.2.1, .int .i64 f.2.2] 36 (0, 0)) ∧ Below w.heap.size w W from fun wr f W hb hf hW => by
    have h := (hb.block bz (by omega)).trans hx1
    obtain ⟨h1, h2⟩ := three_set h rfl _ _ _ W hW
    exact ⟨h1, below_upd (below_below hb1 hb1.size hb) (by have := hb.size; omega) h2 (fun k hk => by omega)⟩)
  have KZ := Lib.hid (show ∀ wr, Below w1.heap.size w1 wr → (wr.cell? ⟨bz, 0, none⟩ = some (.int .i64 0) ∧ wr.cell? ⟨bz, 1, none⟩ = some (.int .i64 0) ∧ wr.cell? ⟨bz, 2, none⟩ = some (.int .i64 0)) ∧ wr.frozen? ⟨bz, 0, none⟩ = false ∧ wr.frozen? ⟨bz, 1, none⟩ = false ∧ wr.frozen? ⟨bz, 2, none⟩ = false from fun wr hb => by
    have h := (hb.block bz (by omega)).trans hx1
    exact ⟨⟨(cell_of_row wr bz 0 _ _ _ h).trans rfl, (cell_of_row wr bz 1 _ _ _ h).trans rfl, (cell_of_row wr bz 2 _ _ _ h).trans rfl⟩, frozen_of_row wr bz 0 _ _ h, frozen_of_row wr bz 1 _ _ h, frozen_of_row wr bz 2 _ _ h⟩)
  clear hb1 hx1 hs1 hw1 hbz hr hcap hn
  go_enter Try.func11, Try.ntmps11
  go_upto_block 0 with fail
  rw [show w.alloc (.cells #[.int .i64 0, .int .i64 0, .int .i64 0] 36) = w1 from HW1.out.symm, ← HBZ.out]
  go_cut [4] (fun s4 wx => ∃ rs : List Rc, rs.length = L.length ∧ (∀ (k : Nat) (y : Cl), L[k]? = some y → ∃ x, rs[k]? = some x ∧ decS y.l = .inr x.M) ∧ RcG wx w1.heap.size s4 rs ∧ Below w1.heap.size w1 wx)
  case first =>
    go_wp2_with fail
    go_loopg [4, 5] L.length (fun k s4 s5 wr => ∃ rs : List Rc, rs.length ≤ L.length ∧ k = L.length - rs.length ∧ s5 = .int .i64 (rs.length : Int) ∧ (∀ (k : Nat) (y : Cl), k < rs.length → L[k]? = some y → ∃ x, rs[k]? = some x ∧ decS y.l = .inr x.M) ∧ RcG wr w1.heap.size s4 rs ∧ Below w1.heap.size w1 wr)
    case atStart => exact ⟨[], by simp, rfl, rfl, (fun k y hk => absurd hk (Nat.not_lt_zero _)), RcG.nil _ _, Below.refl _ _⟩
    case round =>
      obtain ⟨rs, hi, hk, rfl, hdd, hg, hb⟩ := hrel
      obtain ⟨Ac, cc, rfl, hcc⟩ := own_slice hg.own
      have HK := Lib.hid hk
      have HDD := Lib.hid hdd
      have HG := Lib.hid hg
      have HB := Lib.hid hb
      clear hk hdd hg hb hcc
      by_cases hlt : rs.length < L.length
      · obtain ⟨x, hx⟩ : ∃ x, L[rs.length]? = some x := ⟨_, List.getElem?_eq_getElem hlt⟩
        have HXM := Lib.hid (List.mem_of_getElem? hx)
        obtain ⟨b1, o1, rfl, e1⟩ := (HR.out.r).part (by rw [clc_length]; omega)
        have q1 : wr.cell? ⟨b1, o1 + rs.length * 2 + 1, none⟩ = some (.slice x.A x.l.length x.c) := by
          rw [Nat.add_assoc]
          exact cell_below HB.out (e1 _ _ ((clc_get L rs.length x hx 1 (by omega)).trans rfl))
        have hi0 : (0 : Int) ≤ (rs.length : Int) := by omega
        have hi1 : (rs.length : Int) < (L.length : Int) := by omega
        have HXB := Lib.hid (show RB wr x.A x.l ∧ x.l.length ≤ x.c ∧ x.l.length ≤ 17000000 by
          have h := HR.out.b x HXM.out
          exact ⟨h.1.below HB.out, HCAP.out x HXM.out, h.2.2⟩)
        have HX := Lib.hid hx
        have HLT := Lib.hid hlt
        clear hx e1 hlt hi
        go_wp2_with fail
        refine (refDecode_g x.A _ x.c x.l wr rfl HXB.out.2.2 HXB.out.2.1 HXB.out.1).mono ?_
        rintro e w3 ⟨hb3, hd⟩
        have HB3 := Lib.hid (below_below HB.out HB.out.size hb3)
        have HG3 := Lib.hid (HG.out.below hb3)
        have HSZ := Lib.hid (show w1.heap.size ≤ wr.heap.size from HB.out.size)
        rcases hd with ⟨why, en, hde, rfl⟩ | ⟨M, v, hde, rfl, hvo, hMh, hMt, hMl⟩
        · have hne : (why != 0) = true := by simpa using decS_ne hde
          have HF := Lib.hid (rs_found HX.out hde (fun k y hk hy => by
            obtain ⟨x', _, h⟩ := HDD.out k y hk hy
            exact ⟨_, h⟩))
          obtain ⟨⟨z0, z1, z2⟩, f0, f1, f2⟩ := KZ.out w3 HB3.out
          clear hb3 hde q1
          go_wp2_with fail
          obtain ⟨hf1, hf2⟩ := HTELL.out w3 _ _ HB3.out HF.out rfl
          refine bodyPost_ret (v := .tuple #[.agg #[.int .i64 1, .int .i64 (rs.length : Int), .int .i64 en], .bool false]) ?_ rfl ?_
          · refine Eq.trans (results_row_tmp rfl _ _ bz 36 _ (0, 0) _ rfl hf1 Try.underlying36 rfl infoFt) ?_
            rfl
          · rw [HF.out]
            exact ⟨rfl, hf2⟩
        · obtain ⟨bl, cl, rfl, hcl⟩ := own_slice hvo
          have HNX := Lib.hid (show RlG w3 w1.heap.size (.slice Ac rs.length cc) ⟨bl, cl, M, none, 0, []⟩ from
            ⟨own_RC hvo, fun h0 ad e => by
              have hA : bl = some ad := e
              have h1 := World.ownsRow.lt hvo ad.block (by rw [hA]; rfl)
              refine ⟨by have := HSZ.out; omega, h1.2, fun h5 => ?_⟩
              have := (World.ownsRow.lt HG.out.own _ h5).2
              omega, hMh, hMt, hMl, rfl, rfl, rfl⟩)
          have HDE := Lib.hid hde
          have hrl : rs.length ≤ 1000 := by have := HLT.out; omega
          have HRL := Lib.hid hrl
          clear hb3 hde hvo hMh hMt hMl hcl q1 hrl
          go_wp2_with (at_builtin; refine append_rcl rfl rfl (.tmp 37) (.tmp 40) rfl w3 w1.heap.size (.slice Ac rs.length cc) rs ⟨bl, cl, M, none, 0, []⟩ rfl rfl rfl HG3.out HNX.out HB3.out.size (by have := HRL.out; omega) ?_)
          intro v4 w4 hg4 hu4
          have HG4 := Lib.hid hg4
          have HB4 := Lib.hid (below_upd HB3.out HB3.out.size hu4 (fun k hk => (World.ownsRow.lt HG3.out.own k hk).1))
          clear hg4 hu4
          go_wp2_with fail
          go_roundg (L.length - (rs.length + 1))
          case measure => have := HK.out; have := HLT.out; omega
          case rel =>
            refine ⟨rs ++ [⟨bl, cl, M, none, 0, []⟩], by simp; exact HLT.out, by simp, by simp, fun k y hk hy => ?_, HG4.out, HB4.out⟩
            rw [List.length_append] at hk
            by_cases hkr : k < rs.length
            · obtain ⟨x', h1, h2⟩ := HDD.out k y hkr hy
              exact ⟨x', by rw [List.getElem?_append_left hkr]; exact h1, h2⟩
            · obtain rfl : k = rs.length := by simp at hk; omega
              rw [HX.out] at hy
              cases hy
              exact ⟨⟨bl, cl, M, none, 0, []⟩, by simp, HDE.out⟩
      · have hE : rs.length = L.length := by omega
        have HE := Lib.hid hE
        have hd : ¬ ((rs.length : Int) < (L.length : Int)) := by omega
        clear hlt hi hE
        go_wp2_with fail
        go_meet
        exact ⟨rs, HE.out, fun k y hy => HDD.out k y (by rw [HE.out]; exact (List.getElem?_eq_some_iff.1 hy).1) hy, HG.out, HB.out⟩
  case rest =>
    obtain ⟨rs, hrl, hdd, hg, hb⟩ := hcut
    obtain ⟨Ac, cc, rfl, hcc⟩ := own_slice hg.own
    rw [hrl]
    rename World => w2
    have HDD := Lib.hid hdd
    have HB2 := Lib.hid hb
    have HG2 := Lib.hid hg
    have HRL := Lib.hid hrl
    clear hdd hg hb hcc hrl
    go_upto_block 2 with fail
    go_cut [] (fun wx => ∃ cs : List Rc, cs.length = L.length ∧ (∀ (k : Nat) (y : Cl), L[k]? = some y → ∃ x, cs[k]? = some x ∧ decS y.l = .inr x.M ∧ recsOf x.M = (x.recs.map Rm.p, true)) ∧ RcsAt wx Ac cs ∧ Below w1.heap.size w1 wx)
    case first =>
      by_cases hn0 : L.length = 0
      · have hz : ¬ ((0 : Int) < (L.length : Int)) := by omega
        have HN0 := Lib.hid hn0
        clear hn0
        go_wp2_with fail
        go_loopg [9] 0 (fun k s9 wr => k = 0 ∧ s9 = .int .i64 0 ∧ wr = w2)
        case atStart => exact ⟨rfl, rfl, rfl⟩
        case round =>
          obtain ⟨_, rfl, rfl⟩ := hrel
          go_wp2_with fail
          go_meet
          refine ⟨[], HN0.out.symm, fun k y hy => ?_, ⟨RC.nil _ _, (fun c hc => by cases hc), Nat.zero_le _⟩, HB2.out⟩
          have h1 := (List.getElem?_eq_some_iff.1 hy).1
          have := HN0.out
          omega
      · obtain ⟨gc, rfl⟩ : ∃ gc, Ac = some ⟨gc, 0, none⟩ := by
          rcases HG2.out.own.2 with ⟨h, h2⟩ | ⟨g, cap, cur, h, _⟩
          · exact absurd (HRL.out.symm.trans h2) hn0
          · exact ⟨g, by cases h; rfl⟩
        have HGC := Lib.hid (show w1.heap.size ≤ gc ∧ gc < w2.heap.size from World.ownsRow.lt HG2.out.own gc rfl)
        have HRF2 := Lib.hid (show ∀ x ∈ rs, RF w2 gc x ∧ x.recs = [] ∧ x.rA = none ∧ x.rc = 0 from fun x hx => by
          have h := HG2.out.b x hx
          obtain ⟨e1, e2, e3⟩ := h.e
          refine ⟨⟨⟨h.rc, ?_, ?_, h.hh, h.ht, Nat.le_trans h.lM (by decide), ?_⟩, fun h0 ad e => fun hk => (h.off h0 ad e).2.2 (by rw [hk]; rfl), ?_, ?_⟩, h.e⟩
          · rw [e1]; exact fun h0 => absurd h0 (by simp [rmc])
          · rw [e1]; exact fun m hm => by cases hm
          · rw [e1]; exact Nat.zero_le _
          · rw [e1]; exact fun h0 => absurd h0 (by simp [rmc])
          · rw [e1]; exact fun m hm => by cases hm)
        have HOW2 := Lib.hid (show w2.ownsRow w1.heap.size 85 2 (.slice (some ⟨gc, 0, none⟩) L.length cc) L.length (rcc rs) by have h := HG2.out.own; rw [HRL.out] at h; exact h)
        clear hn0
        go_wp2_with fail
        go_loopg [9] L.length (fun k s9 wr => ∃ (i : Nat) (cs : List Rc), i ≤ L.length ∧ k = L.length - i ∧ s9 = .int .i64 (i : Int) ∧ cs.length = L.length ∧ (∀ (k : Nat) (y : Cl), L[k]? = some y → ∃ x, cs[k]? = some x ∧ decS y.l = .inr x.M ∧ (k < i → recsOf x.M = (x.recs.map Rm.p, true)) ∧ (i ≤ k → x.recs = [] ∧ x.rA = none ∧ x.rc = 0)) ∧ (∀ x ∈ cs, RF wr gc x) ∧ wr.ownsRow w1.heap.size 85 2 (.slice (some ⟨gc, 0, none⟩) L.length cc) L.length (rcc cs) ∧ Below w1.heap.size w1 wr)
        case atStart =>
          refine ⟨0, rs, by omega, rfl, rfl, HRL.out, fun k y hy => ?_, fun x hx => (HRF2.out x hx).1, HOW2.out, HB2.out⟩
          obtain ⟨x, h1, h2⟩ := HDD.out k y hy
          exact ⟨x, h1, h2, fun h => absurd h (Nat.not_lt_zero _), fun _ => (HRF2.out x (List.mem_of_getElem? h1)).2⟩
        case round =>
          obtain ⟨i, cs, hi, hk, rfl, hcl, hcs, hrf, how, hb⟩ := hrel
          rename World => wi
          have HK := Lib.hid hk
          have HCL := Lib.hid hcl
          have HCS := Lib.hid hcs
          have HRF := Lib.hid hrf
          have HOW := Lib.hid how
          have HBI := Lib.hid hb
          clear hk hcl hcs hrf how hb
          by_cases hlt : i < L.length
          · obtain ⟨y, hy⟩ : ∃ y, L[i]? = some y := ⟨_, List.getElem?_eq_getElem hlt⟩
            obtain ⟨⟨lA, lc, M, rA, rc, recs⟩, hx0, hdec, _, hnil⟩ := HCS.out i y hy
            obtain ⟨e1, e2, e3⟩ := hnil (Nat.le_refl _)
            dsimp only at hdec e1 e2 e3
            subst e1 e2 e3
            have hRF0 := HRF.out _ (List.mem_of_getElem? hx0)
            have hi2 := (List.getElem?_eq_some_iff.1 hx0).1
            have hgi : cs[i] = ⟨lA, lc, M, none, 0, []⟩ := (List.getElem?_eq_some_iff.1 hx0).2
            have HY := Lib.hid hy
            have HDEC := Lib.hid hdec
            have HX0 := Lib.hid hx0
            have HI2 := Lib.hid hi2
            have HLL := Lib.hid hRF0.at_.l
            have HLO := Lib.hid (show 0 < (lv M).length → ∀ ad, lA = some ad → ad.block ≠ gc from hRF0.ol)
            have HHH := Lib.hid (show ∀ y ∈ M, y.2.length = 32 from hRF0.at_.hh)
            have HHT := Lib.hid (show ∀ y ∈ M, y.1.length ≤ 4000 from hRF0.at_.ht)
            have hml : (M.length : Int) ≤ 5000 := by have := hRF0.at_.lM; dsimp only at this; omega
            have HGI := Lib.hid (show gc < wi.heap.size from (World.ownsRow.lt HOW.out gc rfl).2)
            have hset0 : cs.set i ⟨lA, lc, M, none, 0, []⟩ = cs := by rw [← hgi]; exact List.set_getElem_self _
            have HSET := Lib.hid (show ∀ (x x' : Rc), (cs.set i x)[i]? = some x ∧ (cs.set i x).set i x' = cs.set i x' from fun x x' => ⟨List.getElem?_set_self hi2, List.set_set _⟩)
            have hi0 : (0 : Int) ≤ (i : Int) := by omega
            have hi1 : (i : Int) < (L.length : Int) := by omega
            have HLT := Lib.hid hlt
            have HS0 := Lib.hid hset0
            clear hy hx0 hdec hnil hRF0 hi2 hgi hset0 hlt hi
            go_upto_block 3 with fail
            go_wp2_with fail
            go_loopg [10] M.length (fun k s10 wr => ∃ (ms : List Rm) (Ar : Option Addr) (cr : Nat), ms.length ≤ M.length ∧ k = M.length - ms.length ∧ s10 = .int .i64 (ms.length : Int) ∧ recsOf M = (ms.map Rm.p ++ (recsOf (M.drop ms.length)).1, (recsOf (M.drop ms.length)).2) ∧ RecsR wr wi.heap.size (.slice Ar ms.length cr) ms ∧ wr.ownsRow w1.heap.size 85 2 (.slice (some ⟨gc, 0, none⟩) L.length cc) L.length (rcc (cs.set i ⟨lA, lc, M, Ar, cr, ms⟩)) ∧ Upd (fun k => k = gc) wi wr)
            case atStart => exact ⟨[], none, 0, by simp, rfl, rfl, by simp, RecsR.nil _ _, by rw [HS0.out]; exact HOW.out, Upd.refl _ _⟩
            case round =>
              obtain ⟨ms, Ar, cr, hi, hk, rfl, hrec, hrg, how, hu⟩ := hrel
              have HK2 := Lib.hid hk
              have HREC := Lib.hid hrec
              have HRG := Lib.hid hrg
              have HOW2' := Lib.hid how
              have HU := Lib.hid hu
              have HBR := Lib.hid (below_upd HBI.out HBI.out.size hu (fun k hk => by have := HGC.out; omega))
              have KROW := Lib.hid (show ∀ (W : World) (cs' : List Rc) (x : Rc), cs'[i]? = some x → W.ownsRow w1.heap.size 85 2 (.slice (some ⟨gc, 0, none⟩) L.length cc) L.length (rcc cs') → W.cell? ⟨gc, i * 2, none⟩ = some (.slice x.lA x.M.length x.lc) ∧ W.cell? ⟨gc, i * 2 + 1, none⟩ = some (.slice x.rA x.recs.length x.rc) from fun W cs' x hx hw => by
                have hl := (List.getElem?_eq_some_iff.1 hx).1
                obtain ⟨b', o', e, hh⟩ := (own_RC hw).part (by rw [rcc_length]; omega)
                cases e
                have h0 := hh _ _ ((rcc_get cs' i x hx 0 (by omega)).trans rfl)
                have h1 := hh _ _ ((rcc_get cs' i x hx 1 (by omega)).trans rfl)
                rw [Nat.zero_add] at h0 h1
                exact ⟨h0, h1⟩)
              obtain ⟨k0, k1⟩ := KROW.out wr _ _ (HSET.out ⟨lA, lc, M, Ar, cr, ms⟩ ⟨lA, lc, M, Ar, cr, ms⟩).1 how
              dsimp only at k0 k1
              clear hk hrec hrg how hu
              by_cases hlt : ms.length < M.length
              · obtain ⟨bl, ol, rfl, e1⟩ := (RC.upd HLL.out HU.out HLO.out).parts (by rw [lv_length M HHH.out]; omega)
                have cz : wr.cell? ⟨bl, ol + ms.length * 33, none⟩ = some (.string (strB M[ms.length].1)) := lk_range HHH.out e1 ms.length hlt 0 (.string (strB M[ms.length].1)) rfl
                have htl := HHT.out _ (List.getElem_mem hlt)
                have HRN := Lib.hid (fun h => recsOf_none hlt h)
                have HRS := Lib.hid (fun r h => recsOf_some (r := r) hlt h)
                generalize M[ms.length] = x at *
                have hj0 : (0 : Int) ≤ (ms.length : Int) := by omega
                have hj1 : (ms.length : Int) < (M.length : Int) := by omega
                have HLT2 := Lib.hid hlt
                have HTL := Lib.hid htl
                clear e1 htl hlt hi
                go_wp2_with fail
                refine (refRead_any x.1 wr (by have := HTL.out; omega)).mono ?_
                rintro e w8 ⟨hb8, hres⟩
                have HB8 := Lib.hid hb8
                clear hb8 cz k0 k1
                rcases hres with ⟨hrn, rfl⟩ | ⟨r, A5, c5, hrs, rfl, hro⟩
                · unfold recZ
                  have hrn1 := HRN.out hrn
                  have HF := Lib.hid (show verP (L.map Cl.p) = (2, (i : Int), (ms.length : Int)) by
                    have h := HREC.out
                    rw [hrn1, List.append_nil] at h
                    have h2 := rs_second HY.out HDEC.out (by rw [h]) (fun k y hy => by
                      obtain ⟨x', _, h2, h3, _⟩ := HCS.out k y hy
                      exact ⟨_, h2, fun hk => by rw [h3 hk]⟩)
                    rw [h] at h2
                    simpa using h2)
                  have hb9 : Below w8.heap.size w8 (w8.alloc (.cells #[.int .i64 0, .string ⟨#[]⟩, .slice none 0 0, .string ⟨#[]⟩] 55)) := (Below.refl _ _).alloc (Nat.le_refl _) _
                  obtain ⟨w9, hw9⟩ : ∃ w9, w9 = w8.alloc (.cells #[.int .i64 0, .string ⟨#[]⟩, .slice none 0 0, .string ⟨#[]⟩] 55) := ⟨_, rfl⟩
                  rw [← hw9] at hb9
                  have HW9 := Lib.hid hw9
                  have HB9 := Lib.hid (below_below HBR.out HBR.out.size (below_below HB8.out HB8.out.size hb9))
                  clear hrn hrn1 hb9 hw9
                  go_upto_region 16 with fail
                  rw [show w8.alloc (.cells #[.int .i64 0, .string ⟨#[]⟩, .slice none 0 0, .string ⟨#[]⟩] 55) = w9 from HW9.out.symm]
                  obtain ⟨⟨z0, z1, z2⟩, f0, f1, f2⟩ := KZ.out w9 HB9.out
                  go_wp2_with fail
                  obtain ⟨hf1, hf2⟩ := HTELL.out w9 _ _ HB9.out HF.out rfl
                  refine bodyPost_ret (v := .tuple #[.agg #[.int .i64 2, .int .i64 (i : Int), .int .i64 (ms.length : Int)], .bool false]) ?_ rfl ?_
                  · refine Eq.trans (results_row_tmp rfl _ _ bz 36 _ (0, 0) _ rfl hf1 Try.underlying36 rfl infoFt) ?_
                    rfl
                  · rw [HF.out]
                    exact ⟨rfl, hf2⟩
                · have hgl := readS_groups hrs
                  have hrs1 := HRS.out r hrs
                  obtain ⟨rk, rt, rg, rb⟩ := r
                  unfold Rp.m Rm.cells
                  dsimp only at hro hgl ⊢
                  have hb9 : Below w8.heap.size w8 (w8.alloc (.cells #[.int .i64 rk, .string (strB rt), .slice A5 rg.length c5, .string (strB rb)] 55)) := (Below.refl _ _).alloc (Nat.le_refl _) _
                  have hx9 := heap_alloc_new w8 (.cells #[.int .i64 rk, .string (strB rt), .slice A5 rg.length c5, .string (strB rb)] 55)
                  obtain ⟨w9, hw9⟩ : ∃ w9, w9 = w8.alloc (.cells #[.int .i64 rk, .string (strB rt), .slice A5 rg.length c5, .string (strB rb)] 55) := ⟨_, rfl⟩
                  rw [← hw9] at hb9 hx9
                  obtain ⟨n9, hn9⟩ : ∃ n9, n9 = w8.heap.size := ⟨_, rfl⟩
                  rw [← hn9] at hx9
                  have br9 := below_below HB8.out HB8.out.size hb9
                  have hRG9 := HRG.out.below br9
                  have hszr := HU.out.size
                  have hGI9 : GI w9 wi.heap.size (.slice Ar ms.length cr) ⟨rk, rt, A5, c5, rg, rb⟩ := by
                    have hro9 := own_below hro hb9
                    refine ⟨own_RC hro9, hgl, fun h0 ad e => ?_⟩
                    have hA : A5 = some ad := e
                    have h1 := World.ownsRow.lt hro9 ad.block (by rw [hA]; rfl)
                    refine ⟨by omega, h1.2, fun h5 => ?_⟩
                    have h6 := (World.ownsRow.lt HRG.out.own ad.block h5).2
                    omega
                  obtain ⟨wa, hwa⟩ : ∃ wa, wa = w9.drew := ⟨_, rfl⟩
                  have b9a : Below w9.heap.size w9 wa := by rw [hwa]; exact (Below.refl _ _).drew
                  obtain ⟨z2, hz2⟩ : ∃ z2, z2 = wa.heap.size := ⟨_, rfl⟩
                  obtain ⟨wb, hwb⟩ : ∃ wb, wb = wa.alloc (.cells #[.int .i64 rk, .string (strB rt), .slice A5 rg.length c5, .string (strB rb)] 55) := ⟨_, rfl⟩
                  have bab : Below wa.heap.size wa wb := by rw [hwb]; exact (Below.refl _ _).alloc (Nat.le_refl _) _
                  have b9b := below_below b9a b9a.size bab
                  have brb := below_below br9 br9.size b9b
                  have hRGb := hRG9.below b9b
                  have hGIb := hGI9.below b9b
                  have hone : ∀ u ∈ ([.int .i64 rk, .string (strB rt), .slice A5 rg.length c5, .string (strB rb)] : List Value), u.oneCell' = true := by
                    intro u hu
                    simp only [List.mem_cons, List.not_mem_nil, or_false] at hu
                    rcases hu with rfl | rfl | rfl | rfl <;> rfl
                  have hms : ms.length ≤ 5000 := by have := HLT2.out; omega
                  obtain ⟨ve, wc8, hrun8, own8, g8, hat8⟩ := run_append_any (P := Try.prog) wb wi.heap.size 83 83 55 (.agg recZ) 4 64 Try.underlying83 infoRecRfA rfl (by omega) (by omega) (.slice Ar ms.length cr) ms.length (rmc ms) hRGb.own (some ⟨z2, 0, none⟩) 1 1 [.int .i64 rk, .string (strB rt), .slice A5 rg.length c5, .string (strB rb)] rfl (by rw [hwb, hz2]; exact RC_newL wa [.int .i64 rk, .string (strB rt), .slice A5 rg.length c5, .string (strB rb)] _) hone (by omega) (by have := brb.size; omega)
                  obtain ⟨Ae, ce, rfl, hce⟩ := own_slice own8
                  have u8 : Upd (fun k => (Value.slice Ar ms.length cr).ownBlock = some k) wb wc8 := (Upd.refl _ wb).grown g8 (fun k hk _ => hk)
                  have hNEW8 : RecsR wc8 wi.heap.size (.slice Ae (ms.length + 1) ce) (ms ++ [⟨rk, rt, A5, c5, rg, rb⟩]) := hRGb.push hGIb own8 u8 hat8 (Nat.le_refl _)
                  have rowa := own_below HOW2'.out (below_below br9 br9.size b9a)
                  have rowb := own_below HOW2'.out brb
                  have row8 := own_upd rowb u8 (fun k hk e => by
                    have h1 : gc = k := Option.some.inj hk
                    have := (World.ownsRow.lt hRGb.own k e).1
                    have := HGI.out
                    omega)
                  obtain ⟨wd, hwd⟩ : ∃ wd, wd = wc8.setCell ⟨gc, i * 2 + 1, none⟩ (.slice Ae (ms.length + 1) ce) := ⟨_, rfl⟩
                  have ud : Upd (fun k => k = gc) wc8 wd := by rw [hwd]; exact (Upd.refl (fun k => k = gc) wc8).setCell (p := ⟨gc, i * 2 + 1, none⟩) (fun _ => rfl) _
                  have HNEW := Lib.hid (show RecsR wd wi.heap.size (.slice Ae (ms.length + 1) ce) (ms ++ [⟨rk, rt, A5, c5, rg, rb⟩]) from hNEW8.upd ud (fun k hk => by have := HGI.out; omega))
                  have HROWD := Lib.hid (show wd.ownsRow w1.heap.size 85 2 (.slice (some ⟨gc, 0, none⟩) L.length cc) L.length (rcc (cs.set i ⟨some ⟨bl, ol, none⟩, lc, M, Ae, ce, ms ++ [⟨rk, rt, A5, c5, rg, rb⟩]⟩)) by
                    have h := (row8.stored (i * 2 + 1) (.slice Ae (ms ++ [(⟨rk, rt, A5, c5, rg, rb⟩ : Rm)]).length ce)).1
                    have hii : i < (cs.set i ⟨some ⟨bl, ol, none⟩, lc, M, Ar, cr, ms⟩).length := by rw [List.length_set]; exact HI2.out
                    have hgg : (cs.set i ⟨some ⟨bl, ol, none⟩, lc, M, Ar, cr, ms⟩)[i] = ⟨some ⟨bl, ol, none⟩, lc, M, Ar, cr, ms⟩ := List.getElem_set_self ..
                    rw [rcc_set _ i hii, hgg] at h
                    dsimp only at h
                    rw [List.set_set] at h
                    rw [hwd]
                    rw [List.length_append] at h
                    exact h)
                  have HUD := Lib.hid (((HU.out.below brb).trans u8 (fun k hk e => by have := (World.ownsRow.lt hRGb.own k e).1; omega)).trans ud (fun _ _ h => h))
                  have KRA := Lib.hid (KROW.out wa _ _ (HSET.out ⟨some ⟨bl, ol, none⟩, lc, M, Ar, cr, ms⟩ ⟨some ⟨bl, ol, none⟩, lc, M, Ar, cr, ms⟩).1 rowa).2
                  have KRB := Lib.hid (KROW.out wb _ _ (HSET.out ⟨some ⟨bl, ol, none⟩, lc, M, Ar, cr, ms⟩ ⟨some ⟨bl, ol, none⟩, lc, M, Ar, cr, ms⟩).1 rowb).2
                  have KC8 := Lib.hid (And.intro (KROW.out wc8 _ _ (HSET.out ⟨some ⟨bl, ol, none⟩, lc, M, Ar, cr, ms⟩ ⟨some ⟨bl, ol, none⟩, lc, M, Ar, cr, ms⟩).1 row8).2 (row8.frozenAt (i * 2 + 1)))
                  dsimp only at KRA KRB KC8
                  have hx9a := (b9a.block n9 (Array.getElem?_eq_some_iff.1 hx9).1).trans hx9
                  have KX9 := Lib.hid (show wa.cell? ⟨n9, 0, none⟩ = some (.int .i64 rk) ∧ wa.cell? ⟨n9, 1, none⟩ = some (.string (strB rt)) ∧ wa.cell? ⟨n9, 2, none⟩ = some (.slice A5 rg.length c5) ∧ wa.cell? ⟨n9, 3, none⟩ = some (.string (strB rb)) from
                    ⟨(cell_of_row wa n9 0 _ _ _ hx9a).trans rfl, (cell_of_row wa n9 1 _ _ _ hx9a).trans rfl, (cell_of_row wa n9 2 _ _ _ hx9a).trans rfl, (cell_of_row wa n9 3 _ _ _ hx9a).trans rfl⟩)
                  have HRECN := Lib.hid (show recsOf M = ((ms ++ [(⟨rk, rt, A5, c5, rg, rb⟩ : Rm)]).map Rm.p ++ (recsOf (M.drop (ms.length + 1))).1, (recsOf (M.drop (ms.length + 1))).2) by
                    rw [HREC.out, hrs1]
                    simp only [List.map_append, List.map_cons, List.map_nil, List.append_assoc, List.cons_append, List.nil_append]
                    rfl)
                  have HWA := Lib.hid hwa
                  have HWB := Lib.hid hwb
                  have HWD := Lib.hid hwd
                  have HZ2 := Lib.hid hz2.symm
                  have HRUN8 := Lib.hid hrun8
                  have HW9 := Lib.hid hw9
                  have HN9 := Lib.hid hn9
                  clear hrs hro hgl hrs1 hb9 hx9 hw9 hn9 br9 hRG9 hszr hGI9 hwa b9a hz2 hwb bab b9b brb hRGb hGIb hone hms hrun8 own8 g8 hat8 hce u8 hNEW8 rowa rowb row8 hwd ud hx9a
                  go_upto_region 16 with fail
                  rw [show w8.alloc (.cells #[.int .i64 rk, .string (strB rt), .slice A5 rg.length c5, .string (strB rb)] 55) = w9 from HW9.out.symm, ← HN9.out]
                  go_upto_region 18 with fail
                  refine region_byD (TK wa wb wc8 wd) [(fun v _ => v = .slice (some ⟨gc, 0, none⟩) L.length cc), (fun v _ => v = .int .i64 (i : Int)), (fun v _ => v = .slice (some ⟨gc, 0, none⟩) L.length cc), (fun v _ => v = .int .i64 (i : Int)), (fun v _ => v = .pointer (some ⟨gc, i * 2, none⟩)), (fun v _ => v = .pointer (some ⟨gc, i * 2 + 1, none⟩)), fun v _ => v = .slice Ar ms.length cr, fun v _ => v = .agg #[.int .i64 rk, .string (strB rt), .slice A5 rg.length c5, .string (strB rb)], fun v _ => v = .slice (some ⟨z2, 0, none⟩) 1 1, fun v _ => v = .slice Ae (ms.length + 1) ce, (fun v _ => v = .pointer (some ⟨gc, i * 2, none⟩)), (fun v _ => v = .pointer (some ⟨gc, i * 2 + 1, none⟩)), fun _ _ => True] (by kernel_rfl) (by kernel_rfl) (by kernel_rfl) rfl (⟨HWA.out.symm⟩) ?ok18 ?fin18
                  case ok18 =>
                    refine ⟨?_, ?_, ?_, ?_, ?_, ?_, ?_, ?_, ?_, ?_, ?_, ?_, ?_, trivial⟩
                    · intro l a' w' K hI hcl hsz hn hdn hd hq hK
                      have e4 : a'.eval (.tmp 4) = .slice (some ⟨gc, 0, none⟩) L.length cc := (hq 4 (by kernel_rfl)).trans rfl
                      clear hd hq hcl hsz hn hdn
                      refine op_value (wanted_free _ _ (by rfl)) (v := .slice (some ⟨gc, 0, none⟩) L.length cc) (w'' := w') ?_ (hK _ _ (hI.set _) (fun _ _ _ h => h) rfl)
                      clear hK
                      simp only [execOp, e4]
                      have f4 : a'.tmps[4]?.getD undef = .slice (some ⟨gc, 0, none⟩) L.length cc := (Array.getD_eq_getD_getElem? ..).symm.trans e4
                      clear e4
                      first | rfl | (go_simp <;> exact IntWalk.i64_in _ (by omega))
                    · intro l a' w' K hI hcl hsz hn hdn hd hq hK
                      have e9 : a'.eval (.tmp 9) = .int .i64 (i : Int) := (hq 9 (by kernel_rfl)).trans rfl
                      clear hd hq hcl hsz hn hdn
                      refine op_value (wanted_free _ _ (by rfl)) (v := .int .i64 (i : Int)) (w'' := w') ?_ (hK _ _ (hI.set _) (fun _ _ _ h => h) rfl)
                      clear hK
                      simp only [execOp, e9]
                      have f9 : a'.tmps[9]?.getD undef = .int .i64 (i : Int) := (Array.getD_eq_getD_getElem? ..).symm.trans e9
                      clear e9
                      first | rfl | (go_simp <;> exact IntWalk.i64_in _ (by omega))
                    · intro l a' w' K hI hcl hsz hn hdn hd hq hK
                      have e4 : a'.eval (.tmp 4) = .slice (some ⟨gc, 0, none⟩) L.length cc := (hq 4 (by kernel_rfl)).trans rfl
                      clear hd hq hcl hsz hn hdn
                      refine op_value (wanted_free _ _ (by rfl)) (v := .slice (some ⟨gc, 0, none⟩) L.length cc) (w'' := w') ?_ (hK _ _ (hI.set _) (fun _ _ _ h => h) rfl)
                      clear hK
                      simp only [execOp, e4]
                      have f4 : a'.tmps[4]?.getD undef = .slice (some ⟨gc, 0, none⟩) L.length cc := (Array.getD_eq_getD_getElem? ..).symm.trans e4
                      clear e4
                      first | rfl | (go_simp <;> exact IntWalk.i64_in _ (by omega))
                    · intro l a' w' K hI hcl hsz hn hdn hd hq hK
                      have e9 : a'.eval (.tmp 9) = .int .i64 (i : Int) := (hq 9 (by kernel_rfl)).trans rfl
                      clear hd hq hcl hsz hn hdn
                      refine op_value (wanted_free _ _ (by rfl)) (v := .int .i64 (i : Int)) (w'' := w') ?_ (hK _ _ (hI.set _) (fun _ _ _ h => h) rfl)
                      clear hK
                      simp only [execOp, e9]
                      have f9 : a'.tmps[9]?.getD undef = .int .i64 (i : Int) := (Array.getD_eq_getD_getElem? ..).symm.trans e9
                      clear e9
                      first | rfl | (go_simp <;> exact IntWalk.i64_in _ (by omega))
                    · intro l a' w' K hI hcl hsz hn hdn hd hq hK
                      have e78 : a'.eval (.tmp 78) = .slice (some ⟨gc, 0, none⟩) L.length cc := (hd 2 78 (by kernel_rfl))
                      have e79 : a'.eval (.tmp 79) = .int .i64 (i : Int) := (hd 3 79 (by kernel_rfl))
                      clear hd hq hcl hsz hn hdn
                      refine op_value (wanted_free _ _ (by rfl)) (v := .pointer (some ⟨gc, i * 2, none⟩)) (w'' := w') ?_ (hK _ _ (hI.set _) (fun _ _ _ h => h) rfl)
                      clear hK
                      simp only [execOp, e78, e79]
                      have f78 : a'.tmps[78]?.getD undef = .slice (some ⟨gc, 0, none⟩) L.length cc := (Array.getD_eq_getD_getElem? ..).symm.trans e78
                      have f79 : a'.tmps[79]?.getD undef = .int .i64 (i : Int) := (Array.getD_eq_getD_getElem? ..).symm.trans e79
                      clear e78 e79
                      first | rfl | (go_simp <;> exact IntWalk.i64_in _ (by omega))
                    · intro l a' w' K hI hcl hsz hn hdn hd hq hK
                      have e80 : a'.eval (.tmp 80) = .pointer (some ⟨gc, i * 2, none⟩) := (hd 4 80 (by kernel_rfl))
                      clear hd hq hcl hsz hn hdn
                      refine op_value (wanted_free _ _ (by rfl)) (v := .pointer (some ⟨gc, i * 2 + 1, none⟩)) (w'' := w') ?_ (hK _ _ (hI.set _) (fun _ _ _ h => h) rfl)
                      clear hK
                      simp only [execOp, e80]
                      have f80 : a'.tmps[80]?.getD undef = .pointer (some ⟨gc, i * 2, none⟩) := (Array.getD_eq_getD_getElem? ..).symm.trans e80
                      clear e80
                      first | rfl | (go_simp <;> exact IntWalk.i64_in _ (by omega))
                    · intro l a' w' K hI hcl hsz hn hdn hd hq hK
                      have e81 : a'.eval (.tmp 81) = .pointer (some ⟨gc, i * 2 + 1, none⟩) := (hd 5 81 (by kernel_rfl))
                      clear hd hq
                      have h9 : l.getD 9 false = false := hcl 9 6 (by kernel_rfl) hn
                      have h12 : l.getD 12 false = false := hcl 12 9 (by kernel_rfl) h9
                      have kx : w'.cell? ⟨gc, i * 2 + 1, none⟩ = some (.slice Ar ms.length cr) := by
                        have := hI.eq
                        unfold wAt3 at this
                        rw [h9, h12] at this
                        rw [this]
                        cases l.getD 8 false
                        · exact KRA.out
                        · exact KRB.out
                      refine op_value (wanted_free _ _ (by rfl)) (v := .slice Ar ms.length cr) (w'' := w') ?_ (hK _ _ (hI.set _) (fun _ _ _ h => h) rfl)
                      clear hK hcl hsz hn hdn hI h9 h12
                      simp only [execOp, e81]
                      have f81 : a'.tmps[81]?.getD undef = .pointer (some ⟨gc, i * 2 + 1, none⟩) := (Array.getD_eq_getD_getElem? ..).symm.trans e81
                      clear e81
                      go_simp
                    · intro l a' w' K hI hcl hsz hn hdn hd hq hK
                      have e11 : a'.eval (.tmp 11) = .pointer (some ⟨n9, 0, none⟩) := (hq 11 (by kernel_rfl)).trans rfl
                      clear hd hq
                      have h8 : l.getD 8 false = false := hcl 8 7 (by kernel_rfl) hn
                      have h9 : l.getD 9 false = false := hcl 9 8 (by kernel_rfl) h8
                      have h12 : l.getD 12 false = false := hcl 12 9 (by kernel_rfl) h9
                      have hee : w' = wa := by have := hI.eq; unfold wAt3 at this; rwa [h8, h9, h12] at this
                      obtain ⟨kx0, kx1, kx2, kx3⟩ := KX9.out
                      rw [← hee] at kx0 kx1 kx2 kx3
                      refine op_value (wanted_free _ _ (by rfl)) (v := .agg #[.int .i64 rk, .string (strB rt), .slice A5 rg.length c5, .string (strB rb)]) (w'' := w') ?_ (hK _ _ (hI.set _) (fun _ _ _ h => h) rfl)
                      clear hK hcl hsz hn hdn hI h8 h9 h12 hee
                      simp only [execOp, e11]
                      have f11 : a'.tmps[11]?.getD undef = .pointer (some ⟨n9, 0, none⟩) := (Array.getD_eq_getD_getElem? ..).symm.trans e11
                      clear e11
                      go_simp
                    · intro l a' w' K hI hcl hsz hn hdn hd hq hK
                      have e83 : a'.eval (.tmp 83) = .agg #[.int .i64 rk, .string (strB rt), .slice A5 rg.length c5, .string (strB rb)] := (hd 7 83 (by kernel_rfl))
                      clear hd hq
                      have h9 : l.getD 9 false = false := hcl 9 8 (by kernel_rfl) hn
                      have h12 : l.getD 12 false = false := hcl 12 9 (by kernel_rfl) h9
                      have hee : w' = wa := by have := hI.eq; unfold wAt3 at this; rwa [hn, h9, h12] at this
                      rw [hee]
                      refine op_value (wanted_free _ _ (by rfl)) (v := .slice (some ⟨z2, 0, none⟩) 1 1) (w'' := wb) ?_ (hK _ _ ⟨by unfold wAt3; rw [getD_setN l (by decide : (12 : Nat) ≠ 8), getD_setN l (by decide : (9 : Nat) ≠ 8), h12, h9, setTrue (by rw [hsz]; exact of_decide_eq_true (by kernel_rfl))]; rfl⟩ (by rw [hee]; exact (fun j u => by match j with | 0 | 1 | 2 | 3 | 4 | 5 | 6 | 7 | 8 | 9 | 10 | 11 | 12 => exact fun _ h => h | _ + 13 => exact fun _ _ => trivial)) rfl)
                      clear hK
                      rw [HWB.out]
                      simp only [execOp, e83]
                      have f83 : a'.tmps[83]?.getD undef = .agg #[.int .i64 rk, .string (strB rt), .slice A5 rg.length c5, .string (strB rb)] := (Array.getD_eq_getD_getElem? ..).symm.trans e83
                      clear e83
                      go_simp
                      all_goals first | exact HZ2.out | rfl | skip
                    · intro l a' w' K hI hcl hsz hn hdn hd hq hK
                      have e82 : a'.eval (.tmp 82) = .slice Ar ms.length cr := (hd 6 82 (by kernel_rfl))
                      have e84 : a'.eval (.tmp 84) = .slice (some ⟨z2, 0, none⟩) 1 1 := (hd 8 84 (by kernel_rfl))
                      clear hd hq
                      have h8 : l.getD 8 false = true := hdn 8 (by kernel_rfl)
                      have h12 : l.getD 12 false = false := hcl 12 9 (by kernel_rfl) hn
                      have hee : w' = wb := by have := hI.eq; unfold wAt3 at this; rwa [hn, h8, h12] at this
                      subst hee
                      refine op_value (wanted_free _ _ (by rfl)) (v := .slice Ae (ms.length + 1) ce) (w'' := wc8) ?_ (hK _ _ ⟨by unfold wAt3; rw [getD_setN l (by decide : (12 : Nat) ≠ 9), h12, setTrue (by rw [hsz]; exact of_decide_eq_true (by kernel_rfl))]; rfl⟩ (fun j u => by match j with | 0 | 1 | 2 | 3 | 4 | 5 | 6 | 7 | 8 | 9 | 10 | 11 | 12 => exact fun _ h => h | _ + 13 => exact fun _ _ => trivial) rfl)
                      clear hK
                      simp only [execOp, resolve, invoke, builtin, Sem.run_bind, Sem.run_pure, Result.andThen_ok, List.map_toArray, List.map_cons, List.map_nil, e82, e84, HRUN8.out]
                    · intro l a' w' K hI hcl hsz hn hdn hd hq hK
                      have e76 : a'.eval (.tmp 76) = .slice (some ⟨gc, 0, none⟩) L.length cc := (hd 0 76 (by kernel_rfl))
                      have e77 : a'.eval (.tmp 77) = .int .i64 (i : Int) := (hd 1 77 (by kernel_rfl))
                      clear hd hq hcl hsz hn hdn
                      refine op_value (wanted_free _ _ (by rfl)) (v := .pointer (some ⟨gc, i * 2, none⟩)) (w'' := w') ?_ (hK _ _ (hI.set _) (fun _ _ _ h => h) rfl)
                      clear hK
                      simp only [execOp, e76, e77]
                      have f76 : a'.tmps[76]?.getD undef = .slice (some ⟨gc, 0, none⟩) L.length cc := (Array.getD_eq_getD_getElem? ..).symm.trans e76
                      have f77 : a'.tmps[77]?.getD undef = .int .i64 (i : Int) := (Array.getD_eq_getD_getElem? ..).symm.trans e77
                      clear e76 e77
                      first | rfl | (go_simp <;> exact IntWalk.i64_in _ (by omega))
                    · intro l a' w' K hI hcl hsz hn hdn hd hq hK
                      have e86 : a'.eval (.tmp 86) = .pointer (some ⟨gc, i * 2, none⟩) := (hd 10 86 (by kernel_rfl))
                      clear hd hq hcl hsz hn hdn
                      refine op_value (wanted_free _ _ (by rfl)) (v := .pointer (some ⟨gc, i * 2 + 1, none⟩)) (w'' := w') ?_ (hK _ _ (hI.set _) (fun _ _ _ h => h) rfl)
                      clear hK
                      simp only [execOp, e86]
                      have f86 : a'.tmps[86]?.getD undef = .pointer (some ⟨gc, i * 2, none⟩) := (Array.getD_eq_getD_getElem? ..).symm.trans e86
                      clear e86
                      first | rfl | (go_simp <;> exact IntWalk.i64_in _ (by omega))
                    · intro l a' w' K hI hcl hsz hn hdn hd hq hK
                      have e87 : a'.eval (.tmp 87) = .pointer (some ⟨gc, i * 2 + 1, none⟩) := (hd 11 87 (by kernel_rfl))
                      have e85 : a'.eval (.tmp 85) = .slice Ae (ms.length + 1) ce := (hd 9 85 (by kernel_rfl))
                      clear hd hq
                      have h9 : l.getD 9 false = true := hdn 9 (by kernel_rfl)
                      have hee : w' = wc8 := by have := hI.eq; unfold wAt3 at this; rwa [hn, h9] at this
                      subst hee
                      have kx := KC8.out.1
                      have fx := KC8.out.2
                      refine op_skip (wanted_free _ _ (by rfl)) rfl (w'' := wd) ?_ (hK undef _ ⟨by unfold wAt3; rw [setTrue (by rw [hsz]; exact of_decide_eq_true (by kernel_rfl))]; rfl⟩ (fun j u => by match j with | 0 | 1 | 2 | 3 | 4 | 5 | 6 | 7 | 8 | 9 | 10 | 11 | 12 => exact fun _ h => h | _ + 13 => exact fun _ _ => trivial) trivial)
                      clear hK hcl hsz hn hdn hI h9
                      rw [HWD.out]
                      simp only [execOp, e87]
                      have f87 : a'.tmps[87]?.getD undef = .pointer (some ⟨gc, i * 2 + 1, none⟩) := (Array.getD_eq_getD_getElem? ..).symm.trans e87
                      have f85 : a'.tmps[85]?.getD undef = .slice Ae (ms.length + 1) ce := (Array.getD_eq_getD_getElem? ..).symm.trans e85
                      clear e87 e85
                      go_simp
                  case fin18 =>
                    rintro l w' hsz hall hI _ rfl _ rfl _ rfl _ rfl _ rfl _ rfl _ rfl _ rfl _ rfl _ rfl _ rfl _ rfl _ _
                    simp only [Act.put, List.setIfInBounds_toArray, List.set_cons_zero, List.set_cons_succ, FinGoal]
                    have hwe : w' = wd := hI.eq.trans (by unfold wAt3; rw [hall 12 (of_decide_eq_true (by kernel_rfl))]; rfl)
                    clear hI hall
                    subst hwe
                    go_wp2_with fail
                    go_roundg (M.length - (ms.length + 1))
                    case measure => have := HK2.out; have := HLT2.out; omega
                    case rel => exact ⟨ms ++ [⟨rk, rt, A5, c5, rg, rb⟩], Ae, ce, by simp; exact HLT2.out, by simp, by simp, by rw [List.length_append]; exact HRECN.out, by rw [List.length_append]; exact HNEW.out, HROWD.out, HUD.out⟩
              · have hE : ms.length = M.length := by omega
                have HNEW := Lib.hid (show recsOf M = (ms.map Rm.p, true) by
                  have h := HREC.out
                  rw [hE, List.drop_length, show recsOf [] = ([], true) by rw [recsOf], List.append_nil] at h
                  exact h)
                have HRFN := Lib.hid (show RF wr gc ⟨lA, lc, M, Ar, cr, ms⟩ from ⟨⟨RC.upd HLL.out HU.out HLO.out, own_RC HRG.out.own, fun m hm => ⟨(HRG.out.gi m hm).1, Nat.le_trans (HRG.out.gi m hm).2.1 (by decide)⟩, HHH.out, HHT.out, by have := hml; dsimp only; omega, by have := hml; dsimp only; omega⟩, HLO.out,
                  (fun h0 ad e hk => by
                    have hA : Ar = some ad := e
                    have := (World.ownsRow.lt HRG.out.own ad.block (by rw [hA]; rfl)).1
                    have := HGI.out
                    omega),
                  (fun m hm h0 ad e hk => by
                    have := ((HRG.out.gi m hm).2.2 (by simpa using h0) ad e).1
                    have := HGI.out
                    omega)⟩)
                have hd : ¬ ((ms.length : Int) < (M.length : Int)) := by omega
                clear hlt hi hE
                go_wp2_with fail
                go_roundg (L.length - (i + 1))
                case measure => have := HK.out; have := HLT.out; omega
                case rel =>
                  refine ⟨i + 1, cs.set i ⟨lA, lc, M, Ar, cr, ms⟩, HLT.out, rfl, by go_num, by rw [List.length_set]; exact HCL.out, fun k y hy => ?_, fun x hx => ?_, HOW2'.out, HBR.out⟩
                  · by_cases hki : k = i
                    · subst hki
                      rw [HY.out] at hy
                      cases hy
                      exact ⟨_, (HSET.out _ ⟨lA, lc, M, Ar, cr, ms⟩).1, HDEC.out, fun _ => HNEW.out, fun h => absurd h (by omega)⟩
                    · obtain ⟨x', h1, h2, h3, h4⟩ := HCS.out k y hy
                      exact ⟨x', by rw [List.getElem?_set_ne (fun e => hki e.symm)]; exact h1, h2, fun h => h3 (by omega), fun h => h4 (by omega)⟩
                  · rcases List.mem_or_eq_of_mem_set hx with h | rfl
                    · exact (HRF.out x h).upd HU.out
                    · exact HRFN.out
          · obtain rfl : i = L.length := by omega
            clear hlt hi
            go_wp2_with fail
            go_meet
            refine ⟨cs, HCL.out, fun k y hy => ?_, ⟨own_RC HOW.out, fun c hc => (HRF.out c hc).at_, by have := HCL.out; omega⟩, HBI.out⟩
            obtain ⟨x, h1, h2, h3, _⟩ := HCS.out k y hy
            exact ⟨x, h1, h2, h3 (List.getElem?_eq_some_iff.1 hy).1⟩
    case rest =>
      obtain ⟨cs, hcl, hcs, hca, hb⟩ := hcut
      rename World => w3
      have HB3 := Lib.hid hb
      have HCA := Lib.hid hca
      have HCL := Lib.hid hcl
      have HPAR := Lib.hid (show Par (L.map Cl.p) (gOf L) cs from par_of hcl hcs)
      have HLW := Lib.hid HPAR.out.lw
      clear hcl hcs hca hb
      go_upto_block 6 with fail
      go_wp2_with fail
      go_loopg [13] 5 (fun k s13 wr => ∃ r : Int, 3 ≤ r ∧ r ≤ 8 ∧ k = (8 - r).toNat ∧ s13 = .int .i64 r ∧ upFrom (L.map Cl.p) r 0 ∧ Below w1.heap.size w1 wr ∧ Below w3.heap.size w3 wr)
      case atStart => exact ⟨3, by omega, by omega, rfl, rfl, upFrom_start HLW.out, HB3.out, Below.refl _ _⟩
      case round =>
        obtain ⟨r, hr3, hr8, hk, rfl, hup, hb, hb3⟩ := hrel
        have HK := Lib.hid hk
        have HUP := Lib.hid hup
        have HB := Lib.hid hb
        have HBB := Lib.hid hb3
        clear hk hup hb hb3
        by_cases hr7 : r ≤ 7
        · go_upto_block 8 with fail
          go_wp2_with fail
          go_loopg [14] L.length (fun k s14 wr => ∃ i : Nat, i ≤ L.length ∧ k = L.length - i ∧ s14 = .int .i64 (i : Int) ∧ upFrom (L.map Cl.p) r i ∧ Below w1.heap.size w1 wr ∧ Below w3.heap.size w3 wr)
          case atStart => exact ⟨0, by omega, rfl, rfl, HUP.out, HB.out, HBB.out⟩
          case round =>
            obtain ⟨i, hi, hk, rfl, hup, hb, hb3⟩ := hrel
            have HK2 := Lib.hid hk
            have HUP2 := Lib.hid hup
            have HB2' := Lib.hid hb
            have HBB2 := Lib.hid hb3
            clear hk hup hb hb3
            by_cases hlt : i < L.length
            · obtain ⟨b1, o1, rfl, e1⟩ := (HR.out.r).part (by rw [clc_length]; omega)
              obtain ⟨d, hd⟩ : ∃ d, cs[i]? = some d := ⟨_, List.getElem?_eq_getElem (by have := HCL.out; omega)⟩
              have HG := Lib.hid (show ∀ k, k < cs.length → wr.cell? ⟨b1, o1 + k * 2, none⟩ = some (.int .i64 (gOf L k)) from fun k hk => by
                have hk' : k < L.length := by rw [← HCL.out]; exact hk
                have ey := List.getElem?_eq_getElem hk'
                have h := cell_below HB2'.out (e1 _ _ ((clc_get L k _ ey 0 (by omega)).trans rfl))
                rw [show gOf L k = L[k].g by unfold gOf; rw [ey]]
                exact h)
              have HD := Lib.hid hd
              have hi0 : (0 : Int) ≤ (i : Int) := by omega
              have hi1 : (i : Int) < (L.length : Int) := by omega
              have HLT := Lib.hid hlt
              clear hd e1 hlt hi
              go_wp2_with fail
              refine (breaks_told HPAR.out r b1 o1 L.length c Ac L.length cc i d wr ⟨hr3, hr7⟩ HCL.out (Nat.le_of_eq HCL.out) HG.out (HCA.out.below HBB2.out) HD.out).mono ?_
              rintro e w6 ⟨x, rfl, hx, hb6⟩
              have HX := Lib.hid hx
              have HB6 := Lib.hid (below_below HB2'.out HB2'.out.size hb6)
              have HBB6 := Lib.hid (below_below HBB2.out HBB2.out.size hb6)
              clear hx hb6
              by_cases h0 : 0 ≤ x
              · have HF := Lib.hid (upFrom_found HUP2.out HX.out h0)
                obtain ⟨⟨z0, z1, z2⟩, f0, f1, f2⟩ := KZ.out w6 HB6.out
                have hrz : (r == 0) = false := by simp; omega
                have HRZ := Lib.hid hrz
                clear hrz
                go_wp2_with fail
                obtain ⟨hf1, hf2⟩ := HTELL.out w6 _ _ HB6.out HF.out rfl
                refine bodyPost_ret (v := .tuple #[.agg #[.int .i64 r, .int .i64 (i : Int), .int .i64 x], .bool false]) ?_ rfl ?_
                · refine Eq.trans (results_row_tmp rfl _ _ bz 36 _ (0, 0) _ rfl hf1 Try.underlying36 rfl infoFt) ?_
                  rfl
                · rw [HF.out]
                  dsimp only
                  rw [HRZ.out]
                  exact ⟨rfl, hf2⟩
              · have HN := Lib.hid (upFrom_next HUP2.out HX.out (by omega))
                go_wp2_with fail
                go_roundg (L.length - (i + 1))
                case measure => have := HK2.out; have := HLT.out; omega
                case rel => exact ⟨i + 1, HLT.out, rfl, by go_num, HN.out, HB6.out, HBB6.out⟩
            · obtain rfl : i = L.length := by omega
              have HN := Lib.hid (show upFrom (L.map Cl.p) (r + 1) 0 from upFrom_rule HLW.out (by rw [List.length_map]; exact HUP2.out))
              clear hlt hi
              go_wp2_with fail
              go_roundg (8 - (r + 1)).toNat
              case measure => have := HK.out; omega
              case rel => exact ⟨r + 1, by omega, by omega, rfl, by go_num, HN.out, HB2'.out, HBB2.out⟩
        · obtain rfl : r = 8 := by omega
          have HF := Lib.hid (upFrom_end HLW.out HUP.out)
          obtain ⟨⟨z0, z1, z2⟩, f0, f1, f2⟩ := KZ.out wr HB.out
          clear hr7 hr3 hr8
          go_wp2_with fail
          obtain ⟨hf1, hf2⟩ := HTELL.out wr _ _ HB.out HF.out rfl
          refine bodyPost_ret (v := .tuple #[.agg #[.int .i64 0, .int .i64 0, .int .i64 0], .bool true]) ?_ rfl ?_
          · refine Eq.trans (results_row_tmp rfl _ _ bz 36 _ (0, 0) _ rfl hf1 Try.underlying36 rfl infoFt) ?_
            rfl
          · rw [HF.out]
            exact ⟨rfl, hf2⟩
end Go.Proofs.Ytjakhemolecbnaa
end
