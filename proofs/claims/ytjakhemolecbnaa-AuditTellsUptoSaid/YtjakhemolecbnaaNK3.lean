/-
  The texts RefBreaks, RefPlain of this proof in one (what is used of them): what each proves is said at its head. No conditions beyond those that each theorem says.
-/
import Derived.Test.YtjakhemolecbnaaNK2

/-
  The walk of the reference's breaks, rules 4 to 7.
-/
section
set_option linter.unusedVariables false
set_option linter.unusedSimpArgs false
namespace Go.Proofs.Ytjakhemolecbnaa
open Go.RowKit

/-- What wrong tells of a Commit or Abort. -/
def wrT (r : Int) (cs : List Rc) (i : Nat) (gr : Int) (l : List Rp) (q : Nat) (m : Rp) : Bool := if r = 4 then (l.take q).any (t4 m) else if r = 6 then bareP (l.take q) m else res57 r cs i gr m
def wrQ (r : Int) (cs : List Rc) (i : Nat) (gr : Int) (l : List Rp) (q : Nat) : Bool := match l[q]? with
  | some m => (m.kind == 3 || m.kind == 4) && wrT r cs i gr l q m
  | none => false
theorem wrong_any (r : Int) (bl ol ln lc : Nat) (gr : Int) (A : Option Addr) (n ca : Nat) (cs : List Rc) (i q : Nat) (c : Rc) (m : Rm) (w : World) (hr47 : 4 ≤ r ∧ r ≤ 7) (hmk : m.kind = 3 ∨ m.kind = 4) (hl : cs.length = n) (hln : i < ln) (hG : w.cell? ⟨bl, ol + i * 2, none⟩ = some (.int .i64 gr)) (hr : RcsAt w A cs) (hc : cs[i]? = some c) (hm : c.recs[q]? = some m) :
    Calls Try.prog 65 #[.slice (some ⟨bl, ol, none⟩) ln lc, .slice A n ca, .int .i64 r, .int .i64 (i : Int), .int .i64 (q : Int)] w fun e w' => e = .returned (.bool (wrT r cs i gr (c.recs.map Rm.p) q m.p)) ∧ Below w.heap.size w w' := by
  unfold wrT
  obtain rfl | rfl | h : r = 4 ∨ r = 6 ∨ (r = 5 ∨ r = 7) := by omega
  · rw [if_pos rfl]
    exact wrong4_any _ ln lc A n ca cs i q c m w hl hr hc hm
  · rw [if_neg (by decide), if_pos rfl]
    exact wrong6_any _ ln lc A n ca cs i q c m w hl hr hc hm
  · rw [if_neg (by omega), if_neg (by omega)]
    exact wrong57_any r bl ol ln lc gr A n ca cs i q c m w h hmk hl hln hG hr hc hm
/-- The first place, or none. -/
def firstIs (P : Nat → Bool) (n : Nat) (x : Int) : Prop := (x = -1 ∧ ∀ q, q < n → P q = false) ∨ ∃ q : Nat, x = (q : Int) ∧ q < n ∧ P q = true ∧ ∀ p, p < q → P p = false

set_option maxRecDepth 100000 in
set_option maxHeartbeats 8000000 in
theorem breaks_any (r : Int) (bl ol ln lc : Nat) (gr : Int) (A : Option Addr) (n ca : Nat) (cs : List Rc) (i : Nat) (c : Rc) (w : World) (hr47 : 4 ≤ r ∧ r ≤ 7) (hl : cs.length = n) (hln : i < ln) (hG : w.cell? ⟨bl, ol + i * 2, none⟩ = some (.int .i64 gr)) (hr : RcsAt w A cs) (hc : cs[i]? = some c) :
    Calls Try.prog 35 #[.slice (some ⟨bl, ol, none⟩) ln lc, .slice A n ca, .int .i64 r, .int .i64 (i : Int)] w fun e w' => ∃ x : Int, e = .returned (.int .i64 x) ∧ firstIs (wrQ r cs i gr (c.recs.map Rm.p)) c.recs.length x ∧ Below w.heap.size w w' := by
  subst hl
  have hi := (List.getElem?_eq_some_iff.1 hc).1
  have hn := hr.n
  obtain ⟨b, o, rfl, _⟩ := hr.r.part (by rw [rcc_length]; omega)
  have hcA := hr.x c (List.mem_of_getElem? hc)
  have hlR := hcA.lR
  have KC := Lib.hid (fun W (hW : Below w.heap.size w W) => ((hr.below hW).claim hc).2)
  have HR := Lib.hid hr
  have HC := Lib.hid hc
  have HG := Lib.hid hG
  have HLN := Lib.hid hln
  have H47 := Lib.hid hr47
  have hr3 : (r == 3) = false := by simp; omega
  have hi0 : (0 : Int) ≤ (i : Int) := by omega
  have hi1 : (i : Int) < (cs.length : Int) := by omega
  have hl1 : (c.recs.length : Int) ≤ 5000 := by omega
  clear hr hc hG hln hr47 hcA hlR hi hn
  go_enter Try.func35, Try.ntmps35
  go_upto_block 4 with fail
  go_wp2_with fail
  go_loopg [12] c.recs.length (fun k s12 wr => ∃ q : Nat, q ≤ c.recs.length ∧ k = c.recs.length - q ∧ s12 = .int .i64 (q : Int) ∧ (∀ p, p < q → wrQ r cs i gr (c.recs.map Rm.p) p = false) ∧ Below w.heap.size w wr)
  case atStart => exact ⟨0, by omega, rfl, rfl, fun p hp => absurd hp (Nat.not_lt_zero _), Below.refl _ _⟩
  case round =>
    obtain ⟨q, hq, hk, rfl, han, hb⟩ := hrel
    have HK := Lib.hid hk
    have HAN := Lib.hid han
    have HB := Lib.hid hb
    have k1 := KC.out wr hb
    clear hk han hb
    by_cases hlt : q < c.recs.length
    · obtain ⟨y, hy⟩ : ∃ y, c.recs[q]? = some y := ⟨_, List.getElem?_eq_getElem hlt⟩
      have HY := Lib.hid hy
      have HRW := Lib.hid (HR.out.below HB.out)
      obtain ⟨br, or', e, y0, y1, y2, y3⟩ := (HRW.out.x c (List.mem_of_getElem? HC.out)).rcd hy
      rw [e] at k1
      have HWQ := Lib.hid (show wrQ r cs i gr (c.recs.map Rm.p) q = ((y.kind == 3 || y.kind == 4) && wrT r cs i gr (c.recs.map Rm.p) q y.p) by
        unfold wrQ
        rw [List.getElem?_map, hy]
        rfl)
      have hq0 : (0 : Int) ≤ (q : Int) := by omega
      have hq1 : (q : Int) < (c.recs.length : Int) := by omega
      have HLT := Lib.hid hlt
      obtain ⟨yk, hyk⟩ : ∃ k, k = y.kind := ⟨_, rfl⟩
      obtain ⟨yA, hyA⟩ : ∃ k, k = y.A := ⟨_, rfl⟩
      obtain ⟨yc, hyc⟩ : ∃ k, k = y.c := ⟨_, rfl⟩
      obtain ⟨yl, hyl⟩ : ∃ k, k = y.groups.length := ⟨_, rfl⟩
      obtain ⟨z1, hz1⟩ : ∃ k, k = strB y.tx := ⟨_, rfl⟩
      obtain ⟨z2, hz2⟩ : ∃ k, k = strB y.body := ⟨_, rfl⟩
      rw [← hyk] at y0 HWQ
      rw [← hz1] at y1
      rw [← hyA, ← hyl, ← hyc] at y2
      rw [← hz2] at y3
      have HYK := Lib.hid hyk
      have hb5 : Below wr.heap.size wr (wr.alloc (.cells #[.int .i64 yk, .string z1, .slice yA yl yc, .string z2] 55)) := (Below.refl _ _).alloc (Nat.le_refl _) _
      have hx5 := heap_alloc_new wr (.cells #[.int .i64 yk, .string z1, .slice yA yl yc, .string z2] 55)
      obtain ⟨w5, hw5⟩ : ∃ w5, w5 = wr.alloc (.cells #[.int .i64 yk, .string z1, .slice yA yl yc, .string z2] 55) := ⟨_, rfl⟩
      rw [← hw5] at hb5 hx5
      obtain ⟨gy, hgy⟩ : ∃ gy, gy = wr.heap.size := ⟨_, rfl⟩
      rw [← hgy] at hx5
      have B5 := Lib.hid (below_below HB.out HB.out.size hb5)
      have HW5 := Lib.hid hw5
      have HGY := Lib.hid hgy
      have HX5 := Lib.hid hx5
      have HR5 := Lib.hid (HR.out.below (below_below HB.out HB.out.size hb5))
      have HG5 := Lib.hid (cell_below (below_below HB.out HB.out.size hb5) HG.out)
      clear hy hyk hyA hyc hyl hz1 hz2 hb5 hx5 hw5 hgy hlt hq e
      go_upto_region 18 with fail
      rw [show wr.alloc (.cells #[.int .i64 yk, .string z1, .slice yA yl yc, .string z2] 55) = w5 from HW5.out.symm, ← HGY.out]
      clear y0 y1 y2 y3 k1
      have y0 : w5.cell? ⟨gy, 0, none⟩ = some (.int .i64 yk) := (cell_of_row w5 gy 0 _ _ _ HX5.out).trans rfl
      by_cases h34 : yk = 3 ∨ yk = 4
      · have hmk := HYK.out
        have HCALL := Lib.hid (wrong_any r bl ol ln lc gr (some ⟨b, o, none⟩) cs.length ca cs i q c y w5 H47.out (by rw [← hmk]; exact h34) rfl HLN.out HG5.out HR5.out HC.out HY.out)
        have HW0 := Lib.hid (show wrQ r cs i gr (c.recs.map Rm.p) q = wrT r cs i gr (c.recs.map Rm.p) q y.p by
          rw [HWQ.out, show (yk == 3 || yk == 4) = true by simpa using h34, Bool.true_and])
        rw [← HW0.out] at HCALL
        clear hmk
        rcases h34 with rfl | rfl
        all_goals
          go_wp2_with fail
          refine HCALL.out.mono ?_
          rintro e w6 ⟨rfl, hb6⟩
          have B6 := Lib.hid (below_below B5.out B5.out.size hb6)
          clear hb6 y0
          obtain ⟨t, ht⟩ : ∃ t, t = wrQ r cs i gr (c.recs.map Rm.p) q := ⟨_, rfl⟩
          rw [← ht]
          have HTQ := Lib.hid ht.symm
          clear ht HW0
          cases t with
          | true =>
            go_wp2_with fail
            go_ret
            exact ⟨_, rfl, .inr ⟨q, rfl, HLT.out, HTQ.out, HAN.out⟩, B6.out⟩
          | false =>
            go_wp2_with fail
            go_roundg (c.recs.length - (q + 1))
            case measure => have := HK.out; have := HLT.out; omega
            case rel =>
              refine ⟨q + 1, HLT.out, rfl, by go_num, fun p hp => ?_, B6.out⟩
              by_cases h : p = q
              · rw [h]; exact HTQ.out
              · exact HAN.out p (by omega)
      · have h3 : (yk == 3) = false := by simp; omega
        have h4 : (yk == 4) = false := by simp; omega
        have HTQ := Lib.hid (show wrQ r cs i gr (c.recs.map Rm.p) q = false by rw [HWQ.out, h3, h4]; rfl)
        clear h34
        go_wp2_with fail
        go_roundg (c.recs.length - (q + 1))
        case measure => have := HK.out; have := HLT.out; omega
        case rel =>
          refine ⟨q + 1, HLT.out, rfl, by go_num, fun p hp => ?_, B5.out⟩
          by_cases h : p = q
          · rw [h]; exact HTQ.out
          · exact HAN.out p (by omega)
    · obtain rfl : q = c.recs.length := by omega
      clear hlt hq
      go_wp2_with fail
      go_ret
      exact ⟨_, rfl, .inl ⟨rfl, HAN.out⟩, HB.out⟩
end Go.Proofs.Ytjakhemolecbnaa
end

/-
  What the reference's breaks tells, and the least fault (plain Lean).
-/
section
set_option linter.unusedVariables false
set_option linter.unusedSimpArgs false
namespace Go.Proofs.Ytjakhemolecbnaa
open Go.RowKit

/-- The reference's claims and the program's, alike. -/
structure Par (P : List Cp) (g : Nat → Int) (cs : List Rc) : Prop where
  len : P.length = cs.length
  at_ : ∀ (k : Nat) (c : Rc), cs[k]? = some c → P[k]? = some ⟨g k, c.M, true, c.recs.map Rm.p, true, 0⟩
theorem Par.lw {P : List Cp} {g : Nat → Int} {cs : List Rc} (h : Par P g cs) : ∀ c ∈ P, c.lt = true ∧ c.whole = true := by
  intro c hc
  obtain ⟨k, hk⟩ := List.mem_iff_getElem?.1 hc
  have hl := (List.getElem?_eq_some_iff.1 hk).1
  have h2 := h.at_ k _ (List.getElem?_eq_getElem (by rw [← h.len]; exact hl))
  rw [hk] at h2
  rw [Option.some.inj h2]
  exact ⟨rfl, rfl⟩
theorem Par.tst {P : List Cp} {g : Nat → Int} {cs : List Rc} (h : Par P g cs) (i : Nat) (T : Rp → Bool) (k : Nat) : tstP P i T k = tD cs i T k := by
  unfold tstP tD
  by_cases hk : k < cs.length
  · have e := List.getElem?_eq_getElem hk
    rw [h.at_ k _ e, e]
    have hd : decide ((k : Int) ≠ (i : Int)) = decide (k ≠ i) := by
      rw [Bool.eq_iff_iff]
      simp only [decide_eq_true_eq, ne_eq]
      omega
    simp only [hd, Bool.and_true]
  · rw [List.getElem?_eq_none (by rw [h.len]; omega), List.getElem?_eq_none (by omega)]
    simp
theorem any_congr' {α : Type} {l : List α} {p q : α → Bool} (h : ∀ x ∈ l, p x = q x) : l.any p = l.any q := by
  rw [Bool.eq_iff_iff, List.any_eq_true, List.any_eq_true]
  constructor
  · rintro ⟨x, hx, hp⟩; exact ⟨x, hx, by rw [← h x hx]; exact hp⟩
  · rintro ⟨x, hx, hp⟩; exact ⟨x, hx, by rw [h x hx]; exact hp⟩
theorem Par.others {P : List Cp} {g : Nat → Int} {cs : List Rc} (h : Par P g cs) (i : Nat) (T : Rp → Bool) : othersP P i T = anyD cs i T cs.length := by
  unfold othersP anyD
  rw [h.len]
  exact any_congr' fun k _ => h.tst i T k
theorem tD_congr {cs : List Rc} {i : Nat} {T S : Rp → Bool} (h : ∀ y, T y = S y) (n : Nat) : anyD cs i T n = anyD cs i S n := by
  rw [show T = S from funext h]
theorem res5 {P : List Cp} {g : Nat → Int} {cs : List Rc} (h : Par P g cs) (i : Nat) (gr : Int) (m : Rp) (hk : m.kind = 3 ∨ m.kind = 4) : res57 5 cs i gr m = bothP P i m := by
  unfold res57 bothP
  rw [decide_eq_false (by decide : ¬ (5 : Int) = 7), Bool.false_and, Bool.false_or, h.others, h.others]
  rcases hk with hk | hk
  · rw [decide_eq_true hk, decide_eq_false (show ¬ m.kind = 4 by omega), Bool.true_and, Bool.false_and, Bool.or_false]
    refine tD_congr (fun y => ?_) _
    unfold t57 ofPp
    rw [Bool.eq_iff_iff]
    simp only [hk, Bool.and_eq_true, Bool.or_eq_true, decide_eq_true_eq, beq_iff_eq, bne_iff_ne, ne_eq]
    by_cases ht : y.tx = m.tx
    · simp only [ht, true_and, and_true]
      omega
    · simp only [ht, false_and, and_false]
  · rw [decide_eq_true hk, decide_eq_false (show ¬ m.kind = 3 by omega), Bool.true_and, Bool.false_and, Bool.false_or]
    refine tD_congr (fun y => ?_) _
    unfold t57 ofPp
    rw [Bool.eq_iff_iff]
    simp only [hk, Bool.and_eq_true, Bool.or_eq_true, decide_eq_true_eq, beq_iff_eq, bne_iff_ne, ne_eq]
    by_cases ht : y.tx = m.tx
    · simp only [ht, true_and, and_true]
      omega
    · simp only [ht, false_and, and_false]
theorem res7 {P : List Cp} {g : Nat → Int} {cs : List Rc} (h : Par P g cs) (i : Nat) (gr : Int) (m : Rp) (hk : m.kind = 3 ∨ m.kind = 4) : res57 7 cs i gr m = strangeP P i gr m := by
  unfold res57 strangeP
  rw [decide_eq_true (by decide : (7 : Int) = 7), Bool.true_and, h.others]
  rcases hk with hk | hk
  · rw [decide_eq_true hk, Bool.true_and, Bool.true_and]
    congr 1
    refine tD_congr (fun y => ?_) _
    unfold t57 strPp
    rw [Bool.eq_iff_iff]
    simp only [hk, Bool.and_eq_true, Bool.or_eq_true, decide_eq_true_eq, beq_iff_eq, bne_iff_ne, ne_eq, Bool.not_eq_true', decide_eq_false_iff_not]
    constructor
    · rintro ⟨h1, h2, h3⟩
      rcases h3 with ⟨h4, _⟩ | ⟨_, _, h5, h6⟩
      · exact absurd h4 (by decide)
      · exact ⟨h5, h1, fun e => h6 e.symm⟩
    · rintro ⟨h1, h2, h3⟩
      exact ⟨h2, .inl h1, .inr ⟨trivial, trivial, h1, fun e => h3 e.symm⟩⟩
  · rw [decide_eq_false (show ¬ m.kind = 3 by omega), Bool.false_and, Bool.false_and, Bool.false_or]
    refine List.any_eq_false.2 fun k _ hp => ?_
    unfold tD at hp
    simp only [Bool.and_eq_true] at hp
    obtain ⟨_, hp⟩ := hp
    split at hp
    · obtain ⟨y, _, hy⟩ := List.any_eq_true.1 hp
      unfold t57 at hy
      simp [hk] at hy
    · cases hp
/-- What breaks looks for is what the verifier's rules say. -/
theorem wrQ_brk {P : List Cp} {g : Nat → Int} {cs : List Rc} (h : Par P g cs) {i : Nat} {c : Rc} (hc : cs[i]? = some c) (k : Nat) (hk : k < 4) (q : Nat) (m : Rp) (hm : (c.recs.map Rm.p)[q]? = some m) :
    wrQ (4 + (k : Int)) cs i (g i) (c.recs.map Rm.p) q = brkP P i ⟨g i, c.M, true, c.recs.map Rm.p, true, 0⟩ q m k := by
  unfold wrQ
  rw [hm]
  dsimp only
  by_cases hmk : m.kind = 3 ∨ m.kind = 4
  · rw [show (m.kind == 3 || m.kind == 4) = true by simpa using hmk, Bool.true_and]
    unfold wrT
    match k, hk with
    | 0, _ => rw [if_pos (by decide)]; exact (twice_t hmk).symm
    | 1, _ => rw [if_neg (by decide), if_neg (by decide)]; exact res5 h i (g i) m hmk
    | 2, _ => rw [if_neg (by decide), if_pos (by decide)]; rfl
    | 3, _ => rw [if_neg (by decide), if_neg (by decide)]; exact res7 h i (g i) m hmk
  · have h3 : ¬ m.kind = 3 := fun e => hmk (.inl e)
    have h4 : ¬ m.kind = 4 := fun e => hmk (.inr e)
    rw [show (m.kind == 3 || m.kind == 4) = false by simp [h3, h4], Bool.false_and]
    match k, hk with
    | 0, _ => show false = twiceP _ _; unfold twiceP; simp [h3, h4]
    | 1, _ => show false = bothP _ _ _; unfold bothP; simp [h3, h4]
    | 2, _ => show false = bareP _ _; unfold bareP; simp [h3]
    | 3, _ => show false = strangeP _ _ _ _; unfold strangeP; simp [h3]

/-- One fault ahead of another. -/
def ltF (f b : Ft) : Prop := orOf (sgnOf f.1 b.1) (sgnOf f.2.1 b.2.1) (sgnOf f.2.2 b.2.2) < 0
theorem sgn_cases (x y : Int) : (x < y ∧ sgnOf x y = -1) ∨ (x = y ∧ sgnOf x y = 0) ∨ (y < x ∧ sgnOf x y = 1) := by
  unfold sgnOf
  by_cases h : x < y
  · exact .inl ⟨h, if_pos h⟩
  · by_cases h2 : y < x
    · exact .inr (.inr ⟨h2, by rw [if_neg h, if_pos h2]⟩)
    · exact .inr (.inl ⟨by omega, by rw [if_neg h, if_neg h2]⟩)
theorem or_n (a b : Int) : orOf (-1) a b = -1 := if_pos (by decide)
theorem or_p (a b : Int) : orOf 1 a b = 1 := if_pos (by decide)
theorem or_zn (b : Int) : orOf 0 (-1) b = -1 := by unfold orOf; simp
theorem or_zp (b : Int) : orOf 0 1 b = 1 := by unfold orOf; simp
theorem or_zz (b : Int) : orOf 0 0 b = b := by unfold orOf; simp
theorem ltF_iff (f b : Ft) : ltF f b ↔ f.1 < b.1 ∨ (f.1 = b.1 ∧ (f.2.1 < b.2.1 ∨ (f.2.1 = b.2.1 ∧ f.2.2 < b.2.2))) := by
  unfold ltF
  rcases sgn_cases f.1 b.1 with ⟨h1, e1⟩ | ⟨h1, e1⟩ | ⟨h1, e1⟩
  · rw [e1, or_n]; omega
  · rw [e1]
    rcases sgn_cases f.2.1 b.2.1 with ⟨h2, e2⟩ | ⟨h2, e2⟩ | ⟨h2, e2⟩
    · rw [e2, or_zn]; omega
    · rw [e2, or_zz]
      rcases sgn_cases f.2.2 b.2.2 with ⟨h3, e3⟩ | ⟨h3, e3⟩ | ⟨h3, e3⟩ <;> rw [e3] <;> omega
    · rw [e2, or_zp]; omega
  · rw [e1, or_p]; omega
theorem fold_least : ∀ (l : List Ft) (b : Ft), b.1 ≠ 0 → (∀ f ∈ l, f.1 ≠ 0) → (∀ f ∈ l, ¬ ltF f (l.foldl bestOf b)) ∧ ¬ ltF b (l.foldl bestOf b)
  | [], b, _, _ => ⟨(fun f hf => by cases hf), (by rw [List.foldl_nil, ltF_iff]; omega)⟩
  | f :: l, b, hb, hl => by
    rw [List.foldl_cons]
    have hf := hl f (by simp)
    have hbf : (bestOf b f).1 ≠ 0 := by rcases best_mem b f with h | h <;> rw [h] <;> assumption
    obtain ⟨h1, h2⟩ := fold_least l (bestOf b f) hbf (fun x hx => hl x (by simp [hx]))
    generalize l.foldl bestOf (bestOf b f) = r at *
    by_cases hlt : ltF f b
    · have e : bestOf b f = f := if_pos (.inr hlt)
      rw [e] at h2
      refine ⟨fun x hx => ?_, ?_⟩
      · rcases List.mem_cons.1 hx with rfl | hx
        · exact h2
        · exact h1 x hx
      · rw [ltF_iff] at *
        omega
    · have e : bestOf b f = b := if_neg (fun h => h.elim hb hlt)
      rw [e] at h2
      refine ⟨fun x hx => ?_, h2⟩
      rcases List.mem_cons.1 hx with rfl | hx
      · rw [ltF_iff] at *
        omega
      · exact h1 x hx
/-- The fault that no other is ahead of is what Verify tells. -/
theorem ver_least {P : List Cp} {f : Ft} (hf : f ∈ faults P) (hl : ∀ x ∈ faults P, ¬ ltF x f) : verP P = f := by
  have hne : faults P ≠ [] := fun e => by rw [e] at hf; cases hf
  have hm := fold_some _ hne
  have hr : ∀ x ∈ faults P, ¬ ltF x (verP P) := by
    unfold verP
    cases hfs : faults P with
    | nil => exact absurd hfs hne
    | cons y l =>
      rw [List.foldl_cons, show bestOf (0, 0, 0) y = y from if_pos (.inl rfl)]
      have hp := fun x hx => (faults_pos P x hx).1
      rw [hfs] at hp
      obtain ⟨h1, h2⟩ := fold_least l y (by have := hp y (by simp); omega) (fun x hx => by have := hp x (by simp [hx]); omega)
      intro x hx
      rcases List.mem_cons.1 hx with rfl | hx
      · exact h2
      · exact h1 x hx
  have h1 := hr f hf
  have h2 := hl _ hm
  have h2' : ¬ ltF (verP P) f := h2
  clear h2 hm hr hl hf
  generalize verP P = v at *
  rw [ltF_iff] at h1 h2'
  obtain ⟨a, b, c⟩ := f
  obtain ⟨x, y, z⟩ := v
  dsimp only at h1 h2'
  obtain ⟨rfl, rfl, rfl⟩ : x = a ∧ y = b ∧ z = c := by omega
  rfl
end Go.Proofs.Ytjakhemolecbnaa
end
