/-
  The texts RefWrong of this proof in one (what is used of them): what each proves is said at its head. No conditions beyond those that each theorem says.
-/
import Derived.Deep.CutBlock
import Derived.Test.YtjakhemolecbnaaNG2
import Derived.Test.YtjakhemolecbnaaNF3
import Derived.Test.YtjakhemolecbnaaNG
import Derived.Test.YtjakhemolecbnaaNG4

/-
  The walks of the reference's same and wrong.
-/
section
set_option linter.unusedVariables false
set_option linter.unusedSimpArgs false
namespace Go.Proofs.Ytjakhemolecbnaa
open Go.RowKit

set_option maxHeartbeats 2000000 in
theorem sameR_any (A1 A2 : Option Addr) (n1 n2 c1 c2 : Nat) (z1 z2 : List Int) (w : World) (hl1 : z1.length = n1) (hl2 : z2.length = n2) (hn : n1 ≤ 100000000) (hr1 : RG w A1 z1) (hr2 : RG w A2 z2) :
    Calls Try.prog 82 #[.slice A1 n1 c1, .slice A2 n2 c2] w fun e w' => e = .returned (.bool (decide (z1 = z2))) ∧ Below w.heap.size w w' := by
  subst hl1
  subst hl2
  have H1 := Lib.hid hr1
  have H2 := Lib.hid hr2
  clear hr1 hr2
  by_cases hll : z1.length = z2.length
  · obtain ⟨R, eR⟩ : ∃ R, R = decide (z1 = z2) := ⟨_, rfl⟩
    rw [← eR]
    have ER := Lib.hid eR
    have HLL := Lib.hid hll
    rw [← hll]
    clear eR hll
    go_enter Try.func82, Try.ntmps82
    go_wp2_with fail
    go_loopg [5] z1.length (fun k s5 wr => ∃ i : Nat, i ≤ z1.length ∧ k = z1.length - i ∧ s5 = .int .i64 (i : Int) ∧ (∀ j, j < i → z1[j]? = z2[j]?) ∧ Below w.heap.size w wr)
    case atStart => exact ⟨0, Nat.zero_le _, by omega, rfl, fun j hj => absurd hj (Nat.not_lt_zero _), Below.refl _ _⟩
    case round =>
      obtain ⟨i, hi, hk, rfl, hz, hb⟩ := hrel
      have HK := Lib.hid hk
      have HZ := Lib.hid hz
      have HB := Lib.hid hb
      clear hk hz hb
      by_cases hlt : i < z1.length
      · have hlt2 : i < z2.length := by rw [← HLL.out]; exact hlt
        obtain ⟨b1, o1, rfl, hc1⟩ := H1.out.part (by omega)
        obtain ⟨b2, o2, rfl, hc2⟩ := H2.out.part (by omega)
        have k1 := cell_below HB.out (hc1 i hlt)
        have k2 := cell_below HB.out (hc2 i hlt2)
        have g1 := Lib.hid (show z1[i]? = some z1[i] from List.getElem?_eq_getElem hlt)
        have g2 := Lib.hid (show z2[i]? = some z2[i] from List.getElem?_eq_getElem hlt2)
        generalize z1[i] = x1 at *
        generalize z2[i] = x2 at *
        have HLT := Lib.hid hlt
        have i0 : (0 : Int) ≤ (i : Int) := by omega
        have i1 : (i : Int) < (z1.length : Int) := by omega
        clear hc1 hc2 hi hlt2
        by_cases hx : x1 = x2
        · subst hx
          go_wp2_with fail
          go_region
          all_goals
            go_wp2_with fail
            go_roundg (z1.length - (i + 1))
            case measure => have := HK.out; have := HLT.out; omega
            case rel =>
              refine ⟨i + 1, HLT.out, rfl, by go_num, fun j hj => ?_, HB.out.drew⟩
              by_cases h : j = i
              · rw [h, g1.out, g2.out]
              · exact HZ.out j (by omega)
        · have hx1 : (x1 != x2) = true := by simpa using hx
          have HX := Lib.hid hx
          clear hx
          go_wp2_with fail
          go_region
          all_goals
            go_wp2_with fail
            go_ret
            refine ⟨ret_bool ?_, HB.out.drew⟩
            rw [ER.out]
            refine (decide_eq_false fun e => HX.out ?_).symm
            have h1 := g1.out
            rw [e, g2.out] at h1
            exact (Option.some.inj h1).symm
      · obtain rfl : i = z1.length := by omega
        go_wp2_with fail
        go_ret
        refine ⟨ret_bool ?_, HB.out⟩
        rw [ER.out]
        refine (decide_eq_true (List.ext_getElem? fun j => ?_)).symm
        by_cases h : j < z1.length
        · exact HZ.out j h
        · rw [List.getElem?_eq_none (by omega), List.getElem?_eq_none (by rw [← HLL.out]; omega)]
  · have hd : decide (z1 = z2) = false := decide_eq_false fun e => hll (by rw [e])
    rw [hd]
    have hne : ((z1.length : Int) != (z2.length : Int)) = true := by simp; omega
    clear hd hll
    go_enter Try.func82, Try.ntmps82
    go_wp2_with fail
    go_ret
    exact ⟨rfl, Below.refl _ _⟩

/-- A claim that the reference has read. -/
structure Rc where
  lA : Option Addr
  lc : Nat
  M : Lks
  rA : Option Addr
  rc : Nat
  recs : List Rm
def Rc.cells (x : Rc) : List Value := [.slice x.lA x.M.length x.lc, .slice x.rA x.recs.length x.rc]
def rcc (l : List Rc) : List Value := l.flatMap Rc.cells
theorem rcc_length (l : List Rc) : (rcc l).length = l.length * 2 := by
  induction l with
  | nil => rfl
  | cons m l ih =>
    have e : rcc (m :: l) = m.cells ++ rcc l := rfl
    rw [e, List.length_append, ih, List.length_cons]
    show 2 + l.length * 2 = _
    omega
theorem rcc_append (l m : List Rc) : rcc (l ++ m) = rcc l ++ rcc m := by simp [rcc]
theorem rcc_get (l : List Rc) (i : Nat) (c : Rc) (h : l[i]? = some c) (j : Nat) (hj : j < 2) : (rcc l)[i * 2 + j]? = c.cells[j]? := by
  obtain ⟨hi, rfl⟩ := List.getElem?_eq_some_iff.1 h
  have h1 : l = l.take i ++ l[i] :: l.drop (i + 1) := by
    conv => lhs; rw [← List.take_append_drop i l, List.drop_eq_getElem_cons hi]
  have h2 : rcc l = rcc (l.take i) ++ (l[i].cells ++ rcc (l.drop (i + 1))) := by
    refine (congrArg rcc h1).trans ?_
    rw [rcc_append]
    rfl
  have h3 : i * 2 = (rcc (l.take i)).length := by rw [rcc_length, List.length_take]; omega
  rw [h2, List.getElem?_append_right (by omega), ← h3, Nat.add_sub_cancel_left, List.getElem?_append_left (by show j < 2; exact hj)]
structure RcAt (w : World) (x : Rc) : Prop where
  l : RC w x.lA (lv x.M)
  r : RC w x.rA (rmc x.recs)
  g : ∀ m ∈ x.recs, RG w m.A m.groups ∧ m.groups.length ≤ 1000
  hh : ∀ y ∈ x.M, y.2.length = 32
  ht : ∀ y ∈ x.M, y.1.length ≤ 4000
  lM : x.M.length ≤ 5000
  lR : x.recs.length ≤ 5000
theorem RcAt.below {w w' : World} {x : Rc} (h : RcAt w x) (hb : Below w.heap.size w w') : RcAt w' x := ⟨h.l.below hb, h.r.below hb, fun m hm => ⟨(h.g m hm).1.below hb, (h.g m hm).2⟩, h.hh, h.ht, h.lM, h.lR⟩
structure RcsAt (w : World) (A : Option Addr) (cs : List Rc) : Prop where
  r : RC w A (rcc cs)
  x : ∀ c ∈ cs, RcAt w c
  n : cs.length ≤ 1000
theorem RcsAt.below {w w' : World} {A : Option Addr} {cs : List Rc} (h : RcsAt w A cs) (hb : Below w.heap.size w w') : RcsAt w' A cs := ⟨h.r.below hb, fun c hc => (h.x c hc).below hb, h.n⟩
/-- Where a claim's slices lie. -/
theorem RcsAt.claim {w : World} {b o : Nat} {cs : List Rc} (h : RcsAt w (some ⟨b, o, none⟩) cs) {i : Nat} {c : Rc} (hc : cs[i]? = some c) :
    w.cell? ⟨b, o + i * 2, none⟩ = some (.slice c.lA c.M.length c.lc) ∧ w.cell? ⟨b, o + i * 2 + 1, none⟩ = some (.slice c.rA c.recs.length c.rc) := by
  have hi := (List.getElem?_eq_some_iff.1 hc).1
  obtain ⟨b', o', e, hh⟩ := h.r.part (by rw [rcc_length]; omega)
  cases e
  exact ⟨hh _ _ ((rcc_get cs i c hc 0 (by omega)).trans rfl), by rw [Nat.add_assoc]; exact hh _ _ ((rcc_get cs i c hc 1 (by omega)).trans rfl)⟩
/-- Where a record lies. -/
theorem RcAt.rcd {w : World} {c : Rc} (h : RcAt w c) {k : Nat} {m : Rm} (hm : c.recs[k]? = some m) :
    ∃ b o, c.rA = some ⟨b, o, none⟩ ∧ w.cell? ⟨b, o + k * 4, none⟩ = some (.int .i64 m.kind) ∧ w.cell? ⟨b, o + k * 4 + 1, none⟩ = some (.string (strB m.tx)) ∧ w.cell? ⟨b, o + k * 4 + 2, none⟩ = some (.slice m.A m.groups.length m.c) ∧ w.cell? ⟨b, o + k * 4 + 3, none⟩ = some (.string (strB m.body)) := by
  obtain ⟨hk, rfl⟩ := List.getElem?_eq_some_iff.1 hm
  obtain ⟨b, o, e, hh⟩ := h.r.part (by rw [rmc_length]; omega)
  have hg := rmc_get c.recs k hk
  exact ⟨b, o, e, hh _ _ hg.1, by rw [Nat.add_assoc]; exact hh _ _ hg.2.1, by rw [Nat.add_assoc]; exact hh _ _ hg.2.2.1, by rw [Nat.add_assoc]; exact hh _ _ hg.2.2.2⟩

theorem below_dn {B : Nat} {w W : World} (h : Below B w W) : ∀ n, Below B w (W.drewN n)
  | 0 => h
  | n + 1 => (below_dn h n).drew
/-- Rule 4's test of a record ahead. -/
def t4 (m y : Rp) : Bool := decide (y.tx = m.tx) && (y.kind == 3 || (y.kind == 4 && m.kind == 3))
theorem twice_t {l : List Rp} {m : Rp} (hk : m.kind = 3 ∨ m.kind = 4) : twiceP l m = l.any (t4 m) := by
  unfold twiceP
  rcases hk with h | h
  · rw [show decide (m.kind = 3) = true by simp [h], show decide (m.kind = 4) = false by simp [h], Bool.true_and, Bool.false_and, Bool.or_false]
    rw [Bool.eq_iff_iff]
    simp only [Bool.or_eq_true, List.any_eq_true, ofPp, t4, h, decide_eq_true_eq, Bool.and_eq_true, beq_iff_eq]
    constructor
    · rintro (⟨x, hx, h1, h2⟩ | ⟨x, hx, h1, h2⟩)
      · exact ⟨x, hx, h2, .inl h1⟩
      · exact ⟨x, hx, h2, .inr ⟨h1, trivial⟩⟩
    · rintro ⟨x, hx, h1, h2 | ⟨h2, _⟩⟩
      · exact .inl ⟨x, hx, h2, h1⟩
      · exact .inr ⟨x, hx, h2, h1⟩
  · rw [show decide (m.kind = 3) = false by simp [h], show decide (m.kind = 4) = true by simp [h], Bool.false_and, Bool.false_or, Bool.true_and]
    rw [Bool.eq_iff_iff]
    simp only [List.any_eq_true, ofPp, t4, h, decide_eq_true_eq, Bool.and_eq_true, Bool.or_eq_true, beq_iff_eq]
    constructor
    · rintro ⟨x, hx, h1, h2⟩
      exact ⟨x, hx, h2, .inl h1⟩
    · rintro ⟨x, hx, h1, h2 | ⟨_, h2⟩⟩
      · exact ⟨x, hx, h2, h1⟩
      · exact absurd h2 (by decide)

set_option maxRecDepth 100000 in
set_option maxHeartbeats 8000000 in
theorem wrong4_any (lA : Option Addr) (ln lc : Nat) (A : Option Addr) (n ca : Nat) (cs : List Rc) (i q : Nat) (c : Rc) (m : Rm) (w : World) (hl : cs.length = n) (hr : RcsAt w A cs) (hc : cs[i]? = some c) (hm : c.recs[q]? = some m) :
    Calls Try.prog 65 #[.slice lA ln lc, .slice A n ca, .int .i64 4, .int .i64 (i : Int), .int .i64 (q : Int)] w fun e w' => e = .returned (.bool (((c.recs.map Rm.p).take q).any (t4 m.p))) ∧ Below w.heap.size w w' := by
  subst hl
  have hi := (List.getElem?_eq_some_iff.1 hc).1
  have hq := (List.getElem?_eq_some_iff.1 hm).1
  have hn := hr.n
  obtain ⟨b, o, rfl, _⟩ := hr.r.part (by rw [rcc_length]; omega)
  have hcA := hr.x c (List.mem_of_getElem? hc)
  have hlR := hcA.lR
  obtain ⟨br, or', hrA, x0, x1, x2, x3⟩ := hcA.rcd hm
  have k1 := (hr.claim hc).2
  rw [hrA] at k1
  obtain ⟨mk, mt, mA, mc, mg, mb⟩ := m
  dsimp only at x0 x1 x2 x3
  have HC := Lib.hid hcA
  have HRA := Lib.hid hrA
  have b01 : Below w.heap.size w (w.alloc (.cells #[.int .i64 mk, .string (strB mt), .slice mA mg.length mc, .string (strB mb)] 55)) := (Below.refl _ _).alloc (Nat.le_refl _) _
  have hx1 := heap_alloc_new w (.cells #[.int .i64 mk, .string (strB mt), .slice mA mg.length mc, .string (strB mb)] 55)
  obtain ⟨w1, hw1⟩ : ∃ w1, w1 = w.alloc (.cells #[.int .i64 mk, .string (strB mt), .slice mA mg.length mc, .string (strB mb)] 55) := ⟨_, rfl⟩
  rw [← hw1] at b01 hx1
  obtain ⟨gx, hgx⟩ : ∃ gx, gx = w.heap.size := ⟨_, rfl⟩
  rw [← hgx] at hx1
  have HW1 := Lib.hid hw1
  have HGX := Lib.hid hgx
  have B01 := Lib.hid b01
  have KX := Lib.hid (show ∀ W, Below w1.heap.size w1 W → W.cell? ⟨gx, 0, none⟩ = some (.int .i64 mk) ∧ W.cell? ⟨gx, 1, none⟩ = some (.string (strB mt)) from fun W hW => ⟨cell_below hW ((cell_of_row w1 gx 0 _ _ _ hx1).trans rfl), cell_below hW ((cell_of_row w1 gx 1 _ _ _ hx1).trans rfl)⟩)
  have KC := Lib.hid (show ∀ W, Below w1.heap.size w1 W → W.cell? ⟨b, o + i * 2 + 1, none⟩ = some (.slice (some ⟨br, or', none⟩) c.recs.length c.rc) from fun W hW => cell_below hW (cell_below b01 k1))
  have hi0 : (0 : Int) ≤ (i : Int) := by omega
  have hi1 : (i : Int) < (cs.length : Int) := by omega
  have hq0 : (0 : Int) ≤ (q : Int) := by omega
  have hq1 : (q : Int) < (c.recs.length : Int) := by omega
  have hqs : (q : Int) ≤ 5000 := by omega
  have HQ := Lib.hid hq
  clear hcA hrA hw1 hgx b01 hx1 hr hc hm hi hq hlR
  go_enter Try.func65, Try.ntmps65
  go_upto_region 2 with fail
  rw [show w.alloc (.cells #[.int .i64 mk, .string (strB mt), .slice mA mg.length mc, .string (strB mb)] 55) = w1 from HW1.out.symm, ← HGX.out]
  clear k1 x0 x1 x2 x3
  go_wp2_with fail
  go_loopg [12] q (fun k s12 wr => ∃ j : Nat, j ≤ q ∧ k = q - j ∧ s12 = .int .i64 (j : Int) ∧ ((c.recs.map Rm.p).take j).any (t4 ⟨mk, mt, mg, mb⟩) = false ∧ Below w1.heap.size w1 wr)
  case atStart => exact ⟨0, by omega, rfl, rfl, rfl, Below.refl _ _⟩
  case round =>
    obtain ⟨j, hj, hk, rfl, han, hb⟩ := hrel
    have HK := Lib.hid hk
    have HAN := Lib.hid han
    have HB := Lib.hid hb
    clear hk han hb
    by_cases hlt : j < q
    · obtain ⟨y, hy⟩ : ∃ y, c.recs[j]? = some y := ⟨_, List.getElem?_eq_getElem (by have := HQ.out; omega)⟩
      have HST := Lib.hid (show ((c.recs.map Rm.p).take (j + 1)).any (t4 ⟨mk, mt, mg, mb⟩) = (((c.recs.map Rm.p).take j).any (t4 ⟨mk, mt, mg, mb⟩) || t4 ⟨mk, mt, mg, mb⟩ y.p) by
        exact any_take _ _ j y.p (by rw [List.getElem?_map, hy]; rfl))
      obtain ⟨br', or'', e, y0, y1, y2, y3⟩ := (HC.out.below (below_below B01.out B01.out.size HB.out)).rcd hy
      rw [HRA.out] at e
      cases e
      have k1 := KC.out wr HB.out
      obtain ⟨g0, g1⟩ := KX.out wr HB.out
      obtain ⟨yk, yt, yA, yc, yg, yb⟩ := y
      dsimp only at y0 y1 y2 y3
      have hj0 : (0 : Int) ≤ (j : Int) := by omega
      have hj1 : (j : Int) < (q : Int) := by omega
      have hj2 : (j : Int) < (c.recs.length : Int) := by omega
      have HLT := Lib.hid hlt
      have hb5 : Below wr.heap.size wr (wr.alloc (.cells #[.int .i64 yk, .string (strB yt), .slice yA yg.length yc, .string (strB yb)] 55)) := (Below.refl _ _).alloc (Nat.le_refl _) _
      have hx5 := heap_alloc_new wr (.cells #[.int .i64 yk, .string (strB yt), .slice yA yg.length yc, .string (strB yb)] 55)
      obtain ⟨w5, hw5⟩ : ∃ w5, w5 = wr.alloc (.cells #[.int .i64 yk, .string (strB yt), .slice yA yg.length yc, .string (strB yb)] 55) := ⟨_, rfl⟩
      rw [← hw5] at hb5 hx5
      obtain ⟨gy, hgy⟩ : ∃ gy, gy = wr.heap.size := ⟨_, rfl⟩
      rw [← hgy] at hx5
      have B5 := Lib.hid (below_below HB.out HB.out.size hb5)
      have HW5 := Lib.hid hw5
      have HGY := Lib.hid hgy
      have HX5 := Lib.hid hx5
      clear hy hb5 hx5 hw5 hgy hlt hj
      go_upto_region 8 with fail
      rw [show wr.alloc (.cells #[.int .i64 yk, .string (strB yt), .slice yA yg.length yc, .string (strB yb)] 55) = w5 from HW5.out.symm, ← HGY.out]
      clear g0 g1 y0 y1 y2 y3 k1
      obtain ⟨g0, g1⟩ := KX.out w5 B5.out
      have y0 : w5.cell? ⟨gy, 0, none⟩ = some (.int .i64 yk) := (cell_of_row w5 gy 0 _ _ _ HX5.out).trans rfl
      have y1 : w5.cell? ⟨gy, 1, none⟩ = some (.string (strB yt)) := (cell_of_row w5 gy 1 _ _ _ HX5.out).trans rfl
      have HS4 := Lib.hid (show t4 ⟨mk, mt, mg, mb⟩ (⟨yk, yt, yA, yc, yg, yb⟩ : Rm).p = (decide (yt = mt) && (yk == 3 || (yk == 4 && mk == 3))) from rfl)
      have HAQ := Lib.hid (show ∀ t : Bool, (decide (yt = mt) && (yk == 3 || (yk == 4 && mk == 3))) = t → ((c.recs.map Rm.p).take (j + 1)).any (t4 ⟨mk, mt, mg, mb⟩) = t from fun t ht => by rw [HST.out, HAN.out, Bool.false_or, HS4.out, ht])
      have HUP := Lib.hid (show ((c.recs.map Rm.p).take (j + 1)).any (t4 ⟨mk, mt, mg, mb⟩) = true → ((c.recs.map Rm.p).take q).any (t4 ⟨mk, mt, mg, mb⟩) = true from fun h => by
        obtain ⟨r, hr, h2⟩ := List.any_eq_true.1 h
        exact List.any_eq_true.2 ⟨r, (List.take_subset_take_left _ (show j + 1 ≤ q by have := HLT.out; omega)) hr, h2⟩)
      by_cases ht : yt = mt
      · subst ht
        generalize strB yt = z at *
        by_cases h3 : yk = 3
        · subst h3
          have HT := Lib.hid (HUP.out (HAQ.out true (by simp)))
          go_wp2_with fail
          go_ret
          exact ⟨ret_bool HT.out.symm, below_below B01.out B01.out.size B5.out⟩
        · have h3b : (yk == 3) = false := by simpa using h3
          by_cases h4 : yk = 4
          · subst h4
            by_cases hm3 : mk = 3
            · subst hm3
              have HT := Lib.hid (HUP.out (HAQ.out true (by simp)))
              clear h3 h3b
              go_wp2_with fail
              go_ret
              exact ⟨ret_bool HT.out.symm, below_below B01.out B01.out.size B5.out⟩
            · have hm3b : (mk == 3) = false := by simpa using hm3
              have HF := Lib.hid (HAQ.out false (by simp [hm3]))
              clear h3 h3b hm3
              go_wp2_with fail
              go_roundg (q - (j + 1))
              case measure => have := HK.out; have := HLT.out; omega
              case rel => exact ⟨j + 1, HLT.out, rfl, by go_num, HF.out, B5.out⟩
          · have h4b : (yk == 4) = false := by simpa using h4
            have HF := Lib.hid (HAQ.out false (by simp [h3, h4]))
            clear h3 h4
            go_wp2_with fail
            go_roundg (q - (j + 1))
            case measure => have := HK.out; have := HLT.out; omega
            case rel => exact ⟨j + 1, HLT.out, rfl, by go_num, HF.out, B5.out⟩
      · have HF := Lib.hid (HAQ.out false (by simp [ht]))
        have HZF := Lib.hid (show ((strB yt).toList == (strB mt).toList) = false by rw [ByteArray.toList_eq, ByteArray.toList_eq, strB_toList, strB_toList]; simpa using ht)
        generalize strB yt = z1 at *
        generalize strB mt = z2 at *
        have hzf := HZF.out
        clear ht
        go_wp2_with fail
        go_roundg (q - (j + 1))
        case measure => have := HK.out; have := HLT.out; omega
        case rel => exact ⟨j + 1, HLT.out, rfl, by go_num, HF.out, B5.out⟩
    · obtain rfl : j = q := by omega
      clear hlt hj
      go_wp2_with fail
      go_ret
      exact ⟨ret_bool HAN.out.symm, below_below B01.out B01.out.size HB.out⟩

set_option maxRecDepth 100000 in
set_option maxHeartbeats 8000000 in
theorem wrong6_any (lA : Option Addr) (ln lc : Nat) (A : Option Addr) (n ca : Nat) (cs : List Rc) (i q : Nat) (c : Rc) (m : Rm) (w : World) (hl : cs.length = n) (hr : RcsAt w A cs) (hc : cs[i]? = some c) (hm : c.recs[q]? = some m) :
    Calls Try.prog 65 #[.slice lA ln lc, .slice A n ca, .int .i64 6, .int .i64 (i : Int), .int .i64 (q : Int)] w fun e w' => e = .returned (.bool (bareP ((c.recs.map Rm.p).take q) m.p)) ∧ Below w.heap.size w w' := by
  subst hl
  have hi := (List.getElem?_eq_some_iff.1 hc).1
  have hq := (List.getElem?_eq_some_iff.1 hm).1
  have hn := hr.n
  obtain ⟨b, o, rfl, _⟩ := hr.r.part (by rw [rcc_length]; omega)
  have hcA := hr.x c (List.mem_of_getElem? hc)
  have hlR := hcA.lR
  obtain ⟨br, or', hrA, x0, x1, x2, x3⟩ := hcA.rcd hm
  have k1 := (hr.claim hc).2
  rw [hrA] at k1
  obtain ⟨mk, mt, mA, mc, mg, mb⟩ := m
  dsimp only at x0 x1 x2 x3
  have HC := Lib.hid hcA
  have HRA := Lib.hid hrA
  have b01 : Below w.heap.size w (w.alloc (.cells #[.int .i64 mk, .string (strB mt), .slice mA mg.length mc, .string (strB mb)] 55)) := (Below.refl _ _).alloc (Nat.le_refl _) _
  have hx1 := heap_alloc_new w (.cells #[.int .i64 mk, .string (strB mt), .slice mA mg.length mc, .string (strB mb)] 55)
  obtain ⟨w1, hw1⟩ : ∃ w1, w1 = w.alloc (.cells #[.int .i64 mk, .string (strB mt), .slice mA mg.length mc, .string (strB mb)] 55) := ⟨_, rfl⟩
  rw [← hw1] at b01 hx1
  obtain ⟨gx, hgx⟩ : ∃ gx, gx = w.heap.size := ⟨_, rfl⟩
  rw [← hgx] at hx1
  have HW1 := Lib.hid hw1
  have HGX := Lib.hid hgx
  have B01 := Lib.hid b01
  have KX := Lib.hid (show ∀ W, Below w1.heap.size w1 W → W.cell? ⟨gx, 0, none⟩ = some (.int .i64 mk) ∧ W.cell? ⟨gx, 1, none⟩ = some (.string (strB mt)) from fun W hW => ⟨cell_below hW ((cell_of_row w1 gx 0 _ _ _ hx1).trans rfl), cell_below hW ((cell_of_row w1 gx 1 _ _ _ hx1).trans rfl)⟩)
  have KC := Lib.hid (show ∀ W, Below w1.heap.size w1 W → W.cell? ⟨b, o + i * 2 + 1, none⟩ = some (.slice (some ⟨br, or', none⟩) c.recs.length c.rc) from fun W hW => cell_below hW (cell_below b01 k1))
  have hi0 : (0 : Int) ≤ (i : Int) := by omega
  have hi1 : (i : Int) < (cs.length : Int) := by omega
  have hq0 : (0 : Int) ≤ (q : Int) := by omega
  have hq1 : (q : Int) < (c.recs.length : Int) := by omega
  have hqs : (q : Int) ≤ 5000 := by omega
  have HQ := Lib.hid hq
  clear hcA hrA hw1 hgx b01 hx1 hr hc hm hi hq hlR
  go_enter Try.func65, Try.ntmps65
  go_upto_region 2 with fail
  rw [show w.alloc (.cells #[.int .i64 mk, .string (strB mt), .slice mA mg.length mc, .string (strB mb)] 55) = w1 from HW1.out.symm, ← HGX.out]
  clear k1 x0 x1 x2 x3
  go_wp2_with fail
  go_loopg [14] q (fun k s12 wr => ∃ j : Nat, j ≤ q ∧ k = q - j ∧ s12 = .int .i64 (j : Int) ∧ ((c.recs.map Rm.p).take j).any (ofPp 2 mt) = false ∧ Below w1.heap.size w1 wr)
  case atStart => exact ⟨0, by omega, rfl, rfl, rfl, Below.refl _ _⟩
  case round =>
    obtain ⟨j, hj, hk, rfl, han, hb⟩ := hrel
    have HK := Lib.hid hk
    have HAN := Lib.hid han
    have HB := Lib.hid hb
    clear hk han hb
    by_cases hlt : j < q
    · obtain ⟨y, hy⟩ : ∃ y, c.recs[j]? = some y := ⟨_, List.getElem?_eq_getElem (by have := HQ.out; omega)⟩
      have HST := Lib.hid (show ((c.recs.map Rm.p).take (j + 1)).any (ofPp 2 mt) = (((c.recs.map Rm.p).take j).any (ofPp 2 mt) || ofPp 2 mt y.p) by
        exact any_take _ _ j y.p (by rw [List.getElem?_map, hy]; rfl))
      obtain ⟨br', or'', e, y0, y1, y2, y3⟩ := (HC.out.below (below_below B01.out B01.out.size HB.out)).rcd hy
      rw [HRA.out] at e
      cases e
      have k1 := KC.out wr HB.out
      obtain ⟨g0, g1⟩ := KX.out wr HB.out
      obtain ⟨yk, yt, yA, yc, yg, yb⟩ := y
      dsimp only at y0 y1 y2 y3
      have hj0 : (0 : Int) ≤ (j : Int) := by omega
      have hj1 : (j : Int) < (q : Int) := by omega
      have hj2 : (j : Int) < (c.recs.length : Int) := by omega
      have HLT := Lib.hid hlt
      clear hy hlt hj
      obtain ⟨bo, hbo⟩ : ∃ bo, bo = decide (yk = 2 ∧ yt = mt) := ⟨_, rfl⟩
      have BO := Lib.hid hbo
      clear hbo
      go_upto_region 15 with fail
      go_cut [94] (fun s94 wx => s94 = .bool bo ∧ Below w1.heap.size w1 wx)
      case first =>
        by_cases h2 : yk = 2
        · by_cases ht : yt = mt
          · have HE := Lib.hid (show true = bo by rw [BO.out]; simp [h2, ht])
            subst h2 ht
            generalize strB yt = z at *
            go_upto_region 15 with fail
            go_quiet (fail)
            go_wp2
            go_meet
            exact ⟨ret_val HE.out, below_dn HB.out _⟩
          · have HE := Lib.hid (show false = bo by rw [BO.out]; simp [ht])
            have HZF := Lib.hid (show ((strB yt).toList == (strB mt).toList) = false by rw [ByteArray.toList_eq, ByteArray.toList_eq, strB_toList, strB_toList]; simpa using ht)
            subst h2
            clear ht
            generalize strB yt = z1 at *
            generalize strB mt = z2 at *
            have hzf := HZF.out
            go_upto_region 15 with fail
            go_quiet (fail)
            go_wp2
            go_meet
            exact ⟨ret_val HE.out, below_dn HB.out _⟩
        · have HE := Lib.hid (show false = bo by rw [BO.out]; simp [h2])
          have h2b : (yk == 2) = false := by simpa using h2
          clear h2
          go_upto_region 15 with fail
          go_quiet (fail)
          go_wp2
          go_meet
          exact ⟨ret_val HE.out, below_dn HB.out _⟩
      case rest =>
        obtain ⟨rfl, hb3⟩ := hcut
        have B5 := Lib.hid hb3
        clear hb3 g0 g1 y0 y1 y2 y3 k1
        by_cases hd : yk = 2 ∧ yt = mt
        · obtain rfl : bo = true := by rw [BO.out, decide_eq_true hd]
          have HT := Lib.hid (show bareP ((c.recs.map Rm.p).take q) ⟨mk, mt, mg, mb⟩ = false by
            have h : ((c.recs.map Rm.p).take (j + 1)).any (ofPp 2 mt) = true := by
              rw [HST.out, show ofPp 2 mt (⟨yk, yt, yA, yc, yg, yb⟩ : Rm).p = true from decide_eq_true hd, Bool.or_true]
            obtain ⟨r, hr, h2⟩ := List.any_eq_true.1 h
            have h3 : ((c.recs.map Rm.p).take q).any (ofPp 2 mt) = true := List.any_eq_true.2 ⟨r, (List.take_subset_take_left _ (show j + 1 ≤ q by have := HLT.out; omega)) hr, h2⟩
            unfold bareP
            dsimp only
            rw [h3]
            simp)
          clear hd
          go_wp2_with fail
          go_ret
          exact ⟨ret_bool HT.out.symm, below_below B01.out B01.out.size B5.out⟩
        · obtain rfl : bo = false := by rw [BO.out, decide_eq_false hd]
          have HF := Lib.hid (show ((c.recs.map Rm.p).take (j + 1)).any (ofPp 2 mt) = false by rw [HST.out, HAN.out, show ofPp 2 mt (⟨yk, yt, yA, yc, yg, yb⟩ : Rm).p = false from decide_eq_false hd]; rfl)
          clear hd
          go_wp2_with fail
          go_roundg (q - (j + 1))
          case measure => have := HK.out; have := HLT.out; omega
          case rel => exact ⟨j + 1, HLT.out, rfl, by go_num, HF.out, B5.out⟩
    · obtain rfl : j = q := by omega
      have HT := Lib.hid (show (mk == 3) = bareP ((c.recs.map Rm.p).take j) ⟨mk, mt, mg, mb⟩ by
        unfold bareP
        dsimp only
        rw [HAN.out]
        simp [Bool.beq_eq_decide_eq])
      obtain ⟨g0, g1⟩ := KX.out wr HB.out
      clear hlt hj
      go_wp2_with fail
      go_ret
      exact ⟨ret_bool HT.out, below_below B01.out B01.out.size HB.out⟩
end Go.Proofs.Ytjakhemolecbnaa
end
