/-
  The texts Ver, Readc of this proof in one (what is used of them): what each proves is said at its head. No conditions beyond those that each theorem says.
-/
import Derived.Test.YtjakhemolecbnaaNE
import Derived.Test.YtjakhemolecbnaaNB3

/-
  The verifier: its claims as they lie in memory; ahead and others.
-/
section
set_option linter.unusedVariables false
set_option linter.unusedSimpArgs false
namespace Go.Proofs.Ytjakhemolecbnaa
open Go.RowKit

/-- A claim that was read, as it lies in memory. -/
structure Cm where
  group : Int
  lA : Option Addr
  lc : Nat
  M : List (List UInt8 × List UInt8)
  lt : Bool
  rA : Option Addr
  rc : Nat
  recs : List Rm
  whole : Bool
  en : Int
def Cm.cells (c : Cm) : List Value := [.int .i64 c.group, .slice c.lA c.M.length c.lc, .bool c.lt, .slice c.rA c.recs.length c.rc, .bool c.whole, .int .i64 c.en]
def cmc (l : List Cm) : List Value := l.flatMap Cm.cells
theorem cmc_length (l : List Cm) : (cmc l).length = l.length * 6 := by
  induction l with
  | nil => rfl
  | cons m l ih =>
    have e : cmc (m :: l) = m.cells ++ cmc l := rfl
    rw [e, List.length_append, ih, List.length_cons]
    show 6 + l.length * 6 = _
    omega
theorem cmc_append (l m : List Cm) : cmc (l ++ m) = cmc l ++ cmc m := by simp [cmc]
theorem cmc_get (l : List Cm) (i : Nat) (c : Cm) (h : l[i]? = some c) (j : Nat) (hj : j < 6) : (cmc l)[i * 6 + j]? = c.cells[j]? := by
  obtain ⟨hi, rfl⟩ := List.getElem?_eq_some_iff.1 h
  have h1 : l = l.take i ++ l[i] :: l.drop (i + 1) := by
    conv => lhs; rw [← List.take_append_drop i l, List.drop_eq_getElem_cons hi]
  have h2 : cmc l = cmc (l.take i) ++ (l[i].cells ++ cmc (l.drop (i + 1))) := by
    refine (congrArg cmc h1).trans ?_
    rw [cmc_append]
    rfl
  have h3 : i * 6 = (cmc (l.take i)).length := by rw [cmc_length, List.length_take]; omega
  rw [h2, List.getElem?_append_right (by omega), ← h3, Nat.add_sub_cancel_left, List.getElem?_append_left (by show j < 6; exact hj)]
/-- The least fault of two. -/
def bestOf (b f : Int × Int × Int) : Int × Int × Int := if b.1 = 0 ∨ orOf (sgnOf f.1 b.1) (sgnOf f.2.1 b.2.1) (sgnOf f.2.2 b.2.2) < 0 then f else b
/-- A verifier at p. -/
def VAt (w : World) (p : Nat) (vl : Value) (b : Int × Int × Int) : Prop := w.heap[p]? = some (.cells #[vl, .int .i64 b.1, .int .i64 b.2.1, .int .i64 b.2.2] 70 (0, 0))
/-- A row that reads so, none of it in block p. -/
structure RCo (w : World) (p : Nat) (A : Option Addr) (l : List Value) : Prop where
  r : RC w A l
  off : 0 < l.length → ∀ ad, A = some ad → ad.block ≠ p
theorem RCo.below {w w' : World} {p : Nat} {A : Option Addr} {l : List Value} (h : RCo w p A l) (hb : Below w.heap.size w w') : RCo w' p A l := ⟨h.r.below hb, h.off⟩
theorem RCo.turn {w w' : World} {p : Nat} {A : Option Addr} {l : List Value} (h : RCo w p A l) (u : Upd (fun k => k = p) w w') : RCo w' p A l := ⟨h.r.upd u h.off, h.off⟩
structure CF (w : World) (p : Nat) (c : Cm) : Prop where
  rl : RCo w p c.lA (lv c.M)
  rr : RCo w p c.rA (rmc c.recs)
  rg : ∀ m ∈ c.recs, RCo w p m.A (m.groups.map (Value.int .i64)) ∧ m.groups.length ≤ 100000000
  hh : ∀ x ∈ c.M, x.2.length = 32
  ht : ∀ x ∈ c.M, x.1.length ≤ 4000
  lM : c.M.length ≤ 5000
  lR : c.recs.length ≤ 5000
  cr : c.recs.length ≤ c.rc
theorem CF.below {w w' : World} {p : Nat} {c : Cm} (h : CF w p c) (hb : Below w.heap.size w w') : CF w' p c := ⟨h.rl.below hb, h.rr.below hb, fun m hm => ⟨(h.rg m hm).1.below hb, (h.rg m hm).2⟩, h.hh, h.ht, h.lM, h.lR, h.cr⟩
theorem CF.turn {w w' : World} {p : Nat} {c : Cm} (h : CF w p c) (u : Upd (fun k => k = p) w w') : CF w' p c := ⟨h.rl.turn u, h.rr.turn u, fun m hm => ⟨(h.rg m hm).1.turn u, (h.rg m hm).2⟩, h.hh, h.ht, h.lM, h.lR, h.cr⟩
/-- A verifier with its claims. -/
structure VF (w : World) (p : Nat) (vA : Option Addr) (vc : Nat) (cs : List Cm) (b : Int × Int × Int) : Prop where
  at_ : VAt w p (.slice vA cs.length vc) b
  rv : RCo w p vA (cmc cs)
  cf : ∀ c ∈ cs, CF w p c
  len : cs.length ≤ 100000
namespace VF
variable {w w' : World} {p : Nat} {vA : Option Addr} {vc : Nat} {cs : List Cm} {b b' : Int × Int × Int}
theorem lt (h : VF w p vA vc cs b) : p < w.heap.size := (Array.getElem?_eq_some_iff.1 h.at_).1
theorem c0 (h : VF w p vA vc cs b) : w.cell? ⟨p, 0, none⟩ = some (.slice vA cs.length vc) := by rw [cell_of_row w p 0 _ _ _ h.at_]; rfl
theorem below (h : VF w p vA vc cs b) (hb : Below w.heap.size w w') : VF w' p vA vc cs b := ⟨(hb.block p h.lt).trans h.at_, h.rv.below hb, fun c hc => (h.cf c hc).below hb, h.len⟩
theorem turn (h : VF w p vA vc cs b) (u : Upd (fun k => k = p) w w') (ha : VAt w' p (.slice vA cs.length vc) b') : VF w' p vA vc cs b' := ⟨ha, h.rv.turn u, fun c hc => (h.cf c hc).turn u, h.len⟩
/-- The cells of a claim. -/
theorem part (h : VF w p vA vc cs b) {i : Nat} {c : Cm} (hc : cs[i]? = some c) : ∃ bv ov, vA = some ⟨bv, ov, none⟩ ∧ ∀ W, Below w.heap.size w W → W.cell? ⟨bv, ov + i * 6, none⟩ = some (.int .i64 c.group) ∧ W.cell? ⟨bv, ov + i * 6 + 1, none⟩ = some (.slice c.lA c.M.length c.lc) ∧ W.cell? ⟨bv, ov + i * 6 + 2, none⟩ = some (.bool c.lt) ∧ W.cell? ⟨bv, ov + i * 6 + 3, none⟩ = some (.slice c.rA c.recs.length c.rc) ∧ W.cell? ⟨bv, ov + i * 6 + 4, none⟩ = some (.bool c.whole) ∧ W.cell? ⟨bv, ov + i * 6 + 5, none⟩ = some (.int .i64 c.en) := by
  have hi := (List.getElem?_eq_some_iff.1 hc).1
  obtain ⟨bv, ov, e, hcell⟩ := RC.part h.rv.r (by rw [cmc_length]; omega)
  refine ⟨bv, ov, e, fun W hW => ?_⟩
  have key : ∀ j u, j < 6 → c.cells[j]? = some u → W.cell? ⟨bv, ov + i * 6 + j, none⟩ = some u := fun j u hj hu => by
    rw [Nat.add_assoc]
    exact cell_below hW (hcell _ _ ((cmc_get cs i c hc j hj).trans hu))
  exact ⟨key 0 _ (by omega) rfl, key 1 _ (by omega) rfl, key 2 _ (by omega) rfl, key 3 _ (by omega) rfl, key 4 _ (by omega) rfl, key 5 _ (by omega) rfl⟩
end VF
theorem OfB {w w' : World} {g : Nat} {k : Int} {s : List UInt8} (h : w.cell? ⟨g, 0, none⟩ = some (.int .i64 k) ∧ w.cell? ⟨g + 1, 0, none⟩ = some (.string (strB s))) (hb : Below w.heap.size w w') : w'.cell? ⟨g, 0, none⟩ = some (.int .i64 k) ∧ w'.cell? ⟨g + 1, 0, none⟩ = some (.string (strB s)) := ⟨cell_below hb h.1, cell_below hb h.2⟩

set_option maxHeartbeats 2000000 in
theorem ahead_any (p : Nat) (vA : Option Addr) (vc : Nat) (cs : List Cm) (b : Int × Int × Int) (i at' : Nat) (c : Cm) (g : Nat) (k : Int) (s : List UInt8) (w : World) (h : VF w p vA vc cs b) (hc : cs[i]? = some c) (ha : at' ≤ c.recs.length)
    (hf : w.cell? ⟨g, 0, none⟩ = some (.int .i64 k) ∧ w.cell? ⟨g + 1, 0, none⟩ = some (.string (strB s))) :
    Calls Try.prog 52 #[.pointer (some ⟨p, 0, none⟩), .int .i64 (i : Int), .int .i64 (at' : Int), .func (.func 77) #[] #[.pointer (some ⟨g, 0, none⟩), .pointer (some ⟨g + 1, 0, none⟩)]] w fun e w' => e = .returned (.bool ((c.recs.take at').any (ofP k s))) ∧ Below w.heap.size w w' := by
  obtain ⟨bv, ov, rfl, hp⟩ := h.part hc
  obtain ⟨q0, q1, q2, q3, q4, q5⟩ := hp w (Below.refl _ _)
  have hcf := h.cf c (List.mem_of_getElem? hc)
  have hi := (List.getElem?_eq_some_iff.1 hc).1
  have k0 := h.c0
  have hln := h.len
  have i0 : (0 : Int) ≤ (i : Int) := by omega
  have i1 : (i : Int) < (cs.length : Int) := by omega
  have hcr := hcf.cr
  have a0 : (0 : Int) ≤ (at' : Int) := by omega
  have a1 : (at' : Int) ≤ (c.rc : Int) := by omega
  have HCF := Lib.hid hcf
  have HF := Lib.hid hf
  have HA := Lib.hid ha
  have HX := Lib.hid (show RC w c.rA (rmc (c.recs.take at')) by
    rw [← rmc_take _ _ ha]
    intro h0
    rw [List.length_take] at h0
    obtain ⟨ad, e, hh⟩ := hcf.rr.r (by omega)
    exact ⟨ad, e, fun j u hj => hh j u (by rw [List.getElem?_take] at hj; split at hj; exact hj; cases hj)⟩)
  have hlt : (c.recs.take at').length = at' := by rw [List.length_take]; omega
  have HLT := Lib.hid hlt
  have HA5 := Lib.hid (show at' ≤ 5000 from Nat.le_trans ha hcf.lR)
  generalize c.recs.length = nr at *
  generalize c.rA = rA at *
  generalize c.rc = rc at *
  generalize c.recs.take at' = l at *
  clear h hp hc hcf hf ha hlt hcr hi q0 q1 q2 q4 q5
  go_enter Try.func52, Try.ntmps52
  go_wp2_with fail
  refine (containsOf_any rA at' rc l g k s w HLT.out (by have := HA5.out; omega) HX.out HF.out.1 HF.out.2).mono ?_
  obtain ⟨q, hq⟩ : ∃ q, l.any (ofP k s) = q := ⟨_, rfl⟩
  rw [hq]
  have HQ := Lib.hid hq
  rintro e w1 ⟨rfl, hb⟩
  have HB := Lib.hid hb
  clear hb hq
  go_wp2_with fail
  go_ret
  exact ⟨ret_bool HQ.out.symm, HB.out⟩

/-- The test of one claim among the others. -/
def tst (cs : List Cm) (n : Int) (P : Rm → Bool) (j : Nat) : Bool := match cs[j]? with | some c => decide ((j : Int) ≠ n) && c.whole && c.recs.any P | none => false
def othersS (cs : List Cm) (n : Int) (P : Rm → Bool) : Bool := (List.range cs.length).any (tst cs n P)

set_option maxHeartbeats 4000000 in
theorem othersOf_any (p : Nat) (vA : Option Addr) (vc : Nat) (cs : List Cm) (b : Int × Int × Int) (n : Int) (g : Nat) (k : Int) (s : List UInt8) (w : World) (h : VF w p vA vc cs b)
    (hf : w.cell? ⟨g, 0, none⟩ = some (.int .i64 k) ∧ w.cell? ⟨g + 1, 0, none⟩ = some (.string (strB s))) :
    Calls Try.prog 54 #[.pointer (some ⟨p, 0, none⟩), .int .i64 n, .func (.func 77) #[] #[.pointer (some ⟨g, 0, none⟩), .pointer (some ⟨g + 1, 0, none⟩)]] w fun e w' => e = .returned (.bool (othersS cs n (ofP k s))) ∧ Below w.heap.size w w' := by
  have HV := Lib.hid h
  have HF := Lib.hid hf
  have k0 := h.c0
  have hln := h.len
  obtain ⟨R, eR⟩ : ∃ R, R = othersS cs n (ofP k s) := ⟨_, rfl⟩
  rw [← eR]
  have ER := Lib.hid eR
  clear h hf eR
  go_enter Try.func54, Try.ntmps54
  go_wp2_with fail
  go_loopg [14] cs.length (fun gk s14 wr => ∃ i : Nat, i ≤ cs.length ∧ gk = cs.length - i ∧ s14 = .int .i64 (i : Int) ∧ (∀ j, j < i → tst cs n (ofP k s) j = false) ∧ Below w.heap.size w wr)
  case atStart => exact ⟨0, Nat.zero_le _, by omega, rfl, fun j hj => absurd hj (Nat.not_lt_zero _), Below.refl _ _⟩
  case round =>
    obtain ⟨i, hi, hk, rfl, hz, hb⟩ := hrel
    have HK := Lib.hid hk
    have HZ := Lib.hid hz
    have HB := Lib.hid hb
    clear hk hz hb
    by_cases hlt : i < cs.length
    · obtain ⟨c, hc⟩ : ∃ c, cs[i]? = some c := ⟨_, List.getElem?_eq_getElem hlt⟩
      obtain ⟨bv, ov, rfl, hp⟩ := HV.out.part hc
      obtain ⟨q0, q1, q2, q3, q4, q5⟩ := hp wr HB.out
      have hcf := (HV.out.cf c (List.mem_of_getElem? hc)).below HB.out
      have HT := Lib.hid (show tst cs n (ofP k s) i = (decide ((i : Int) ≠ n) && c.whole && c.recs.any (ofP k s)) by unfold tst; rw [hc])
      have HRR := Lib.hid hcf.rr.r
      have HRG := Lib.hid (show ∀ m ∈ c.recs, RG wr m.A m.groups ∧ m.groups.length ≤ 100000000 from fun m hm => ⟨(hcf.rg m hm).1.r, (hcf.rg m hm).2⟩)
      have HLR := Lib.hid hcf.lR
      have HLT := Lib.hid hlt
      have i0 : (0 : Int) ≤ (i : Int) := by omega
      have i1 : (i : Int) < (cs.length : Int) := by omega
      generalize c.M.length = nM at *
      generalize c.whole = wh at *
      generalize c.recs = l at *
      generalize c.group = gr at *
      generalize c.lA = lA at *
      generalize c.lc = lc at *
      generalize c.lt = lt at *
      generalize c.rA = rA at *
      generalize c.rc = rc at *
      generalize c.en = en at *
      have key : ∀ W, Below w.heap.size w W → tst cs n (ofP k s) i = false → ∃ i' : Nat, i' ≤ cs.length ∧ cs.length - (i + 1) = cs.length - i' ∧ (Value.int .i64 ((i + 1 : Nat) : Int)) = .int .i64 (i' : Int) ∧ (∀ j, j < i' → tst cs n (ofP k s) j = false) ∧ Below w.heap.size w W := fun W hW ht => ⟨i + 1, HLT.out, rfl, rfl, fun j hj => by
        by_cases h : j = i
        · rw [h]; exact ht
        · exact HZ.out j (by omega), hW⟩
      have KEY := Lib.hid key
      clear hc hp hcf hi hlt key
      by_cases hin : (i : Int) = n
      · have hin1 : ((i : Int) != n) = false := by simpa using hin
        have ht : tst cs n (ofP k s) i = false := by rw [HT.out, hin]; simp
        have HTF := Lib.hid ht
        clear hin ht
        go_wp2_with fail
        go_roundg (cs.length - (i + 1))
        case measure => have := HK.out; have := HLT.out; omega
        case rel =>
          obtain ⟨i', h1, h2, h3, h4, h5⟩ := KEY.out _ (HB.out.alloc HB.out.size _) HTF.out
          exact ⟨i', h1, h2, Eq.trans (by go_num) h3, h4, h5⟩
      · have hin1 : ((i : Int) != n) = true := by simpa using hin
        have HIN := Lib.hid hin
        clear hin
        cases wh with
        | false =>
          have ht : tst cs n (ofP k s) i = false := by rw [HT.out]; simp
          have HTF := Lib.hid ht
          clear ht
          go_wp2_with fail
          go_roundg (cs.length - (i + 1))
          case measure => have := HK.out; have := HLT.out; omega
          case rel =>
            obtain ⟨i', h1, h2, h3, h4, h5⟩ := KEY.out _ (HB.out.alloc HB.out.size _) HTF.out
            exact ⟨i', h1, h2, Eq.trans (by go_num) h3, h4, h5⟩
        | true =>
          obtain ⟨nl, hnl⟩ : ∃ nl, nl = l.length := ⟨_, rfl⟩
          rw [← hnl] at q3
          have HNL := Lib.hid hnl
          clear hnl
          go_wp2_with fail
          refine (containsOf_any rA nl rc l g k s _ HNL.out.symm (by have := HNL.out; have := HLR.out; omega) (HRR.out.below ((Below.refl _ _).alloc (Nat.le_refl _) _)) (OfB HF.out (HB.out.alloc HB.out.size _)).1 (OfB HF.out (HB.out.alloc HB.out.size _)).2).mono ?_
          obtain ⟨qq, hqq⟩ : ∃ qq, l.any (ofP k s) = qq := ⟨_, rfl⟩
          rw [hqq]
          rintro e w2 ⟨rfl, hb2⟩
          have HB2 := Lib.hid (below_below (HB.out.alloc HB.out.size _) (HB.out.alloc HB.out.size _).size hb2)
          have HTQ := Lib.hid (show tst cs n (ofP k s) i = qq by rw [HT.out, hqq]; simp [HIN.out])
          clear hb2 hqq
          cases qq with
          | true =>
            go_wp2_with fail
            go_ret
            exact ⟨ret_bool (by rw [ER.out]; exact (List.any_eq_true.2 ⟨i, List.mem_range.2 HLT.out, HTQ.out⟩).symm), HB2.out⟩
          | false =>
            go_wp2_with fail
            go_roundg (cs.length - (i + 1))
            case measure => have := HK.out; have := HLT.out; omega
            case rel =>
              obtain ⟨i', h1, h2, h3, h4, h5⟩ := KEY.out _ HB2.out HTQ.out
              exact ⟨i', h1, h2, Eq.trans (by go_num) h3, h4, h5⟩
    · obtain rfl : i = cs.length := by omega
      go_wp2_with fail
      go_ret
      refine ⟨ret_bool ?_, HB.out⟩
      rw [ER.out]
      unfold othersS
      symm
      rw [List.any_eq_false]
      intro j hj
      rw [HZ.out j (List.mem_range.1 hj)]
      decide

set_option maxHeartbeats 4000000 in
theorem othersSt_any (p : Nat) (vA : Option Addr) (vc : Nat) (cs : List Cm) (b : Int × Int × Int) (n : Int) (g : Nat) (s : List UInt8) (gA : Option Addr) (gc : Nat) (zs : List Int) (w : World) (h : VF w p vA vc cs b)
    (hf : StAt w g s gA gc zs) :
    Calls Try.prog 54 #[.pointer (some ⟨p, 0, none⟩), .int .i64 n, .func (.func 56) #[] #[.pointer (some ⟨g, 0, none⟩)]] w fun e w' => e = .returned (.bool (othersS cs n (strP s zs))) ∧ Below w.heap.size w w' := by
  have HV := Lib.hid h
  have HF := Lib.hid hf
  have k0 := h.c0
  have hln := h.len
  obtain ⟨R, eR⟩ : ∃ R, R = othersS cs n (strP s zs) := ⟨_, rfl⟩
  rw [← eR]
  have ER := Lib.hid eR
  clear h hf eR
  go_enter Try.func54, Try.ntmps54
  go_wp2_with fail
  go_loopg [14] cs.length (fun gk s14 wr => ∃ i : Nat, i ≤ cs.length ∧ gk = cs.length - i ∧ s14 = .int .i64 (i : Int) ∧ (∀ j, j < i → tst cs n (strP s zs) j = false) ∧ Below w.heap.size w wr)
  case atStart => exact ⟨0, Nat.zero_le _, by omega, rfl, fun j hj => absurd hj (Nat.not_lt_zero _), Below.refl _ _⟩
  case round =>
    obtain ⟨i, hi, hk, rfl, hz, hb⟩ := hrel
    have HK := Lib.hid hk
    have HZ := Lib.hid hz
    have HB := Lib.hid hb
    clear hk hz hb
    by_cases hlt : i < cs.length
    · obtain ⟨c, hc⟩ : ∃ c, cs[i]? = some c := ⟨_, List.getElem?_eq_getElem hlt⟩
      obtain ⟨bv, ov, rfl, hp⟩ := HV.out.part hc
      obtain ⟨q0, q1, q2, q3, q4, q5⟩ := hp wr HB.out
      have hcf := (HV.out.cf c (List.mem_of_getElem? hc)).below HB.out
      have HT := Lib.hid (show tst cs n (strP s zs) i = (decide ((i : Int) ≠ n) && c.whole && c.recs.any (strP s zs)) by unfold tst; rw [hc])
      have HRR := Lib.hid hcf.rr.r
      have HRG := Lib.hid (show ∀ m ∈ c.recs, RG wr m.A m.groups ∧ m.groups.length ≤ 100000000 from fun m hm => ⟨(hcf.rg m hm).1.r, (hcf.rg m hm).2⟩)
      have HLR := Lib.hid hcf.lR
      have HLT := Lib.hid hlt
      have i0 : (0 : Int) ≤ (i : Int) := by omega
      have i1 : (i : Int) < (cs.length : Int) := by omega
      generalize c.M.length = nM at *
      generalize c.whole = wh at *
      generalize c.recs = l at *
      generalize c.group = gr at *
      generalize c.lA = lA at *
      generalize c.lc = lc at *
      generalize c.lt = lt at *
      generalize c.rA = rA at *
      generalize c.rc = rc at *
      generalize c.en = en at *
      have key : ∀ W, Below w.heap.size w W → tst cs n (strP s zs) i = false → ∃ i' : Nat, i' ≤ cs.length ∧ cs.length - (i + 1) = cs.length - i' ∧ (Value.int .i64 ((i + 1 : Nat) : Int)) = .int .i64 (i' : Int) ∧ (∀ j, j < i' → tst cs n (strP s zs) j = false) ∧ Below w.heap.size w W := fun W hW ht => ⟨i + 1, HLT.out, rfl, rfl, fun j hj => by
        by_cases h : j = i
        · rw [h]; exact ht
        · exact HZ.out j (by omega), hW⟩
      have KEY := Lib.hid key
      clear hc hp hcf hi hlt key
      by_cases hin : (i : Int) = n
      · have hin1 : ((i : Int) != n) = false := by simpa using hin
        have ht : tst cs n (strP s zs) i = false := by rw [HT.out, hin]; simp
        have HTF := Lib.hid ht
        clear hin ht
        go_wp2_with fail
        go_roundg (cs.length - (i + 1))
        case measure => have := HK.out; have := HLT.out; omega
        case rel =>
          obtain ⟨i', h1, h2, h3, h4, h5⟩ := KEY.out _ (HB.out.alloc HB.out.size _) HTF.out
          exact ⟨i', h1, h2, Eq.trans (by go_num) h3, h4, h5⟩
      · have hin1 : ((i : Int) != n) = true := by simpa using hin
        have HIN := Lib.hid hin
        clear hin
        cases wh with
        | false =>
          have ht : tst cs n (strP s zs) i = false := by rw [HT.out]; simp
          have HTF := Lib.hid ht
          clear ht
          go_wp2_with fail
          go_roundg (cs.length - (i + 1))
          case measure => have := HK.out; have := HLT.out; omega
          case rel =>
            obtain ⟨i', h1, h2, h3, h4, h5⟩ := KEY.out _ (HB.out.alloc HB.out.size _) HTF.out
            exact ⟨i', h1, h2, Eq.trans (by go_num) h3, h4, h5⟩
        | true =>
          obtain ⟨nl, hnl⟩ : ∃ nl, nl = l.length := ⟨_, rfl⟩
          rw [← hnl] at q3
          have HNL := Lib.hid hnl
          clear hnl
          go_wp2_with fail
          refine (containsSt_any rA nl rc l g s gA gc zs _ HNL.out.symm (by have := HNL.out; have := HLR.out; omega) (HRR.out.below ((Below.refl _ _).alloc (Nat.le_refl _) _)) (HF.out.below (HB.out.alloc HB.out.size _)) (fun m hm => ⟨(HRG.out m hm).1.below ((Below.refl _ _).alloc (Nat.le_refl _) _), (HRG.out m hm).2⟩)).mono ?_
          obtain ⟨qq, hqq⟩ : ∃ qq, l.any (strP s zs) = qq := ⟨_, rfl⟩
          rw [hqq]
          rintro e w2 ⟨rfl, hb2⟩
          have HB2 := Lib.hid (below_below (HB.out.alloc HB.out.size _) (HB.out.alloc HB.out.size _).size hb2)
          have HTQ := Lib.hid (show tst cs n (strP s zs) i = qq by rw [HT.out, hqq]; simp [HIN.out])
          clear hb2 hqq
          cases qq with
          | true =>
            go_wp2_with fail
            go_ret
            exact ⟨ret_bool (by rw [ER.out]; exact (List.any_eq_true.2 ⟨i, List.mem_range.2 HLT.out, HTQ.out⟩).symm), HB2.out⟩
          | false =>
            go_wp2_with fail
            go_roundg (cs.length - (i + 1))
            case measure => have := HK.out; have := HLT.out; omega
            case rel =>
              obtain ⟨i', h1, h2, h3, h4, h5⟩ := KEY.out _ HB2.out HTQ.out
              exact ⟨i', h1, h2, Eq.trans (by go_num) h3, h4, h5⟩
    · obtain rfl : i = cs.length := by omega
      go_wp2_with fail
      go_ret
      refine ⟨ret_bool ?_, HB.out⟩
      rw [ER.out]
      unfold othersS
      symm
      rw [List.any_eq_false]
      intro j hj
      rw [HZ.out j (List.mem_range.1 hj)]
      decide
end Go.Proofs.Ytjakhemolecbnaa
end

/-
  The walk of audit's read: a claim.
-/
section
set_option linter.unusedVariables false
set_option linter.unusedSimpArgs false
namespace Go.Proofs.Ytjakhemolecbnaa
open Go.RowKit

theorem runS_ne (l : List UInt8) : ∀ (k : Nat) (s : Rs) (M : Lks) (P : List Nat) (x : Int × Int), runS l k s M P = .inl x → x.1 ≠ 0
  | 0, s, M, P, x, h => by
    unfold runS concS at h
    split at h
    · rename_i h0
      cases h
      exact h0
    · split at h
      · cases h
        show (12 : Int) ≠ 0
        decide
      · cases h
  | k + 1, s, M, P, x, h => by
    unfold runS at h
    split at h
    · rename_i h0
      cases h
      exact h0
    · exact runS_ne l k _ _ _ x h
theorem decS_ne {l : List UInt8} {x : Int × Int} (h : decS l = .inl x) : x.1 ≠ 0 := runS_ne l _ _ _ _ x h

/-- The records of links, as far as they are read; and whether all are. -/
def recStep : Option Rp → List Rp × Bool → List Rp × Bool
  | none, _ => ([], false)
  | some r, q => (r :: q.1, q.2)
def recsOf : Lks → List Rp × Bool
  | [] => ([], true)
  | x :: M => recStep (readS x.1) (recsOf M)
theorem recsOf_cons (x : List UInt8 × List UInt8) (M : Lks) : recsOf (x :: M) = recStep (readS x.1) (recsOf M) := by rw [recsOf]
theorem recsOf_none {M : Lks} {i : Nat} (h : i < M.length) (hr : readS M[i].1 = none) : recsOf (M.drop i) = ([], false) := by
  rw [List.drop_eq_getElem_cons h, recsOf_cons, hr, recStep]
theorem recsOf_some {M : Lks} {i : Nat} {r : Rp} (h : i < M.length) (hr : readS M[i].1 = some r) : recsOf (M.drop i) = (r :: (recsOf (M.drop (i + 1))).1, (recsOf (M.drop (i + 1))).2) := by
  rw [List.drop_eq_getElem_cons h, recsOf_cons, hr, recStep]
theorem readS_groups {l : List UInt8} {r : Rp} (h : readS l = some r) : r.groups.length ≤ 255 := by
  unfold readS at h
  split at h
  · cases h
    simp only [List.length_map, grpS_length]
    have := (byteS l (textS l 4000 (byteS l ⟨0, 0, 0⟩).2).2).1.toNat_lt
    omega
  · cases h
/-- What a claim is read as. -/
def clS (g : Int) (l : List UInt8) (C : Cm) : Prop :=
  C.group = g ∧ match decS l with
  | .inl x => C.M = [] ∧ C.lt = false ∧ C.recs = [] ∧ C.whole = false ∧ C.en = x.2
  | .inr M => C.M = M ∧ C.lt = true ∧ C.recs.map Rm.p = (recsOf M).1 ∧ C.whole = (recsOf M).2 ∧ C.en = if (recsOf M).2 then 0 else ((recsOf M).1.length : Int)
theorem infoRecA : (Try.prog.info? 24).map (fun i => (i.zero, i.size, i.bytes)) = some (some (.agg recZ), 4, 64) := by kernel_rfl
theorem infoCl : (Try.prog.info? 73).map (·.size) = some 6 := by kernel_rfl
def clZ : Array Value := #[.int .i64 0, .slice none 0 0, .bool false, .slice none 0 0, .bool false, .int .i64 0]
def clG (g : Int) : Array Value := #[.int .i64 g, .slice none 0 0, .bool false, .slice none 0 0, .bool false, .int .i64 0]
/-- A claim of six cells: its cells, and what six stores make of it. -/
structure SixAt (w : World) (g : Nat) (v0 v1 v2 v3 v4 v5 : Value) : Prop where
  at_ : w.heap[g]? = some (.cells #[v0, v1, v2, v3, v4, v5] 73 (0, 0))
namespace SixAt
variable {w w' : World} {g : Nat} {v0 v1 v2 v3 v4 v5 : Value}
theorem c (h : SixAt w g v0 v1 v2 v3 v4 v5) : w.cell? ⟨g, 0, none⟩ = some v0 ∧ w.cell? ⟨g, 1, none⟩ = some v1 ∧ w.cell? ⟨g, 2, none⟩ = some v2 ∧ w.cell? ⟨g, 3, none⟩ = some v3 ∧ w.cell? ⟨g, 4, none⟩ = some v4 ∧ w.cell? ⟨g, 5, none⟩ = some v5 :=
  ⟨(cell_of_row w g 0 _ _ _ h.at_).trans rfl, (cell_of_row w g 1 _ _ _ h.at_).trans rfl, (cell_of_row w g 2 _ _ _ h.at_).trans rfl, (cell_of_row w g 3 _ _ _ h.at_).trans rfl, (cell_of_row w g 4 _ _ _ h.at_).trans rfl, (cell_of_row w g 5 _ _ _ h.at_).trans rfl⟩
theorem f (h : SixAt w g v0 v1 v2 v3 v4 v5) : w.frozen? ⟨g, 0, none⟩ = false ∧ w.frozen? ⟨g, 1, none⟩ = false ∧ w.frozen? ⟨g, 2, none⟩ = false ∧ w.frozen? ⟨g, 3, none⟩ = false ∧ w.frozen? ⟨g, 4, none⟩ = false ∧ w.frozen? ⟨g, 5, none⟩ = false :=
  ⟨frozen_of_row w g 0 _ _ h.at_, frozen_of_row w g 1 _ _ h.at_, frozen_of_row w g 2 _ _ h.at_, frozen_of_row w g 3 _ _ h.at_, frozen_of_row w g 4 _ _ h.at_, frozen_of_row w g 5 _ _ h.at_⟩
theorem lt (h : SixAt w g v0 v1 v2 v3 v4 v5) : g < w.heap.size := (Array.getElem?_eq_some_iff.1 h.at_).1
theorem upd {F : Nat → Prop} (h : SixAt w g v0 v1 v2 v3 v4 v5) (u : Upd F w w') (hF : ¬ F g) : SixAt w' g v0 v1 v2 v3 v4 v5 := ⟨(u.block g h.lt hF).trans h.at_⟩
theorem below (h : SixAt w g v0 v1 v2 v3 v4 v5) (hb : Below w.heap.size w w') : SixAt w' g v0 v1 v2 v3 v4 v5 := ⟨(hb.block g h.lt).trans h.at_⟩
theorem six (h : SixAt w g v0 v1 v2 v3 v4 v5) (u0 u1 u2 u3 u4 u5 : Value) (W : World) (hW : W = (((((w.setCell ⟨g, 0, none⟩ u0).setCell ⟨g, 1, none⟩ u1).setCell ⟨g, 2, none⟩ u2).setCell ⟨g, 3, none⟩ u3).setCell ⟨g, 4, none⟩ u4).setCell ⟨g, 5, none⟩ u5) : SixAt W g u0 u1 u2 u3 u4 u5 ∧ Upd (fun k => k = g) w W := by
  subst hW
  refine ⟨⟨?_⟩, ((((((Upd.refl (fun k => k = g) w).setCell (p := ⟨g, 0, none⟩) (fun _ => rfl) _).setCell (p := ⟨g, 1, none⟩) (fun _ => rfl) _).setCell (p := ⟨g, 2, none⟩) (fun _ => rfl) _).setCell (p := ⟨g, 3, none⟩) (fun _ => rfl) _).setCell (p := ⟨g, 4, none⟩) (fun _ => rfl) _).setCell (p := ⟨g, 5, none⟩) (fun _ => rfl) _⟩
  rw [setCell_at (setCell_at (setCell_at (setCell_at (setCell_at (setCell_at h.at_ _) _) _) _) _) _]
  rfl
theorem s3 (h : SixAt w g v0 v1 v2 v3 v4 v5) (u : Value) : SixAt (w.setCell ⟨g, 3, none⟩ u) g v0 v1 v2 u v4 v5 ∧ Upd (fun k => k = g) w (w.setCell ⟨g, 3, none⟩ u) :=
  ⟨⟨by rw [setCell_at h.at_ _]; rfl⟩, (Upd.refl (fun k => k = g) w).setCell (p := ⟨g, 3, none⟩) (fun _ => rfl) _⟩
theorem s5 (h : SixAt w g v0 v1 v2 v3 v4 v5) (u : Value) : SixAt (w.setCell ⟨g, 5, none⟩ u) g v0 v1 v2 v3 v4 u ∧ Upd (fun k => k = g) w (w.setCell ⟨g, 5, none⟩ u) :=
  ⟨⟨by rw [setCell_at h.at_ _]; rfl⟩, (Upd.refl (fun k => k = g) w).setCell (p := ⟨g, 5, none⟩) (fun _ => rfl) _⟩
theorem s45 (h : SixAt w g v0 v1 v2 v3 v4 v5) (u u' : Value) : SixAt ((w.setCell ⟨g, 4, none⟩ u).setCell ⟨g, 5, none⟩ u') g v0 v1 v2 v3 u u' ∧ Upd (fun k => k = g) w ((w.setCell ⟨g, 4, none⟩ u).setCell ⟨g, 5, none⟩ u') :=
  ⟨⟨by rw [setCell_at (setCell_at h.at_ _) _]; rfl⟩, ((Upd.refl (fun k => k = g) w).setCell (p := ⟨g, 4, none⟩) (fun _ => rfl) _).setCell (p := ⟨g, 5, none⟩) (fun _ => rfl) _⟩
theorem s124 (h : SixAt w g v0 v1 v2 v3 v4 v5) (u u' u'' : Value) : SixAt (((w.setCell ⟨g, 1, none⟩ u).setCell ⟨g, 2, none⟩ u').setCell ⟨g, 4, none⟩ u'') g v0 u u' v3 u'' v5 ∧ Upd (fun k => k = g) w (((w.setCell ⟨g, 1, none⟩ u).setCell ⟨g, 2, none⟩ u').setCell ⟨g, 4, none⟩ u'') :=
  ⟨⟨by rw [setCell_at (setCell_at (setCell_at h.at_ _) _) _]; rfl⟩, (((Upd.refl (fun k => k = g) w).setCell (p := ⟨g, 1, none⟩) (fun _ => rfl) _).setCell (p := ⟨g, 2, none⟩) (fun _ => rfl) _).setCell (p := ⟨g, 4, none⟩) (fun _ => rfl) _⟩
end SixAt
theorem RCo.of_own {w : World} {p base n m c size : Nat} {e : TypeId} {A : Option Addr} {xs : List Value} (h : w.ownsRow base e size (.slice A n c) m xs) (hp : p < base) : RCo w p A xs :=
  ⟨own_RC h, fun _ ad e' => by
    subst e'
    have := (World.ownsRow.lt h ad.block rfl).1
    omega⟩
/-- A record's groups lie in memory, in no block of the records' own. -/
def GI (w : World) (B : Nat) (vr : Value) (m : Rm) : Prop := RG w m.A m.groups ∧ m.groups.length ≤ 255 ∧ (0 < m.groups.length → ∀ ad, m.A = some ad → B ≤ ad.block ∧ ad.block < w.heap.size ∧ vr.ownBlock ≠ some ad.block)
theorem GI.upd {F : Nat → Prop} {w w' : World} {B : Nat} {vr : Value} {m : Rm} (h : GI w B vr m) (u : Upd F w w') (hF : 0 < m.groups.length → ∀ ad, m.A = some ad → ¬ F ad.block) : GI w' B vr m :=
  ⟨RC.upd h.1 u (fun h0 ad e => hF (by simpa using h0) ad e), h.2.1, fun h0 ad e => ⟨(h.2.2 h0 ad e).1, Nat.lt_of_lt_of_le (h.2.2 h0 ad e).2.1 u.size, (h.2.2 h0 ad e).2.2⟩⟩
theorem GI.below {w w' : World} {B : Nat} {vr : Value} {m : Rm} (h : GI w B vr m) (hb : Below w.heap.size w w') : GI w' B vr m := h.upd (Upd.of_below (F := fun _ => False) hb) (fun _ _ _ => id)
set_option maxRecDepth 100000 in
set_option maxHeartbeats 8000000 in
theorem readc_any (gr : Int) (A : Option Addr) (n c : Nat) (l : List UInt8) (w : World) (hl : l.length = n) (hll : l.length ≤ 17000000) (hr : RB w A l) (hnil : A = none → c = 0) :
    Calls Try.prog 27 #[.agg #[.int .i64 gr, .slice A n c]] w fun e w' => ∃ C : Cm, e = .returned (.agg C.cells.toArray) ∧ Below w.heap.size w w' ∧ clS gr l C ∧ ∀ p, p < w.heap.size → CF w' p C := by
  have HR := Lib.hid hr
  have HNIL := Lib.hid hnil
  have HLL := Lib.hid hll
  have HL := Lib.hid hl
  clear hr hnil hll hl
  obtain ⟨z33, hz33⟩ : ∃ z33, z33 = (lk ([], hd0)).toArray := ⟨_, rfl⟩
  have HZ33 := Lib.hid hz33
  clear hz33
  go_enter Try.func27, Try.ntmps27
  have hb0 : Below w.heap.size w (((w.alloc (.cells #[.int .i64 gr, .slice A n c] 27)).alloc (.cells clZ 73)).alloc (.cells (clG gr) 73)) := (((Below.refl _ _).alloc (Nat.le_refl _) _).alloc (by simp) _).alloc (by simp; omega) _
  have hg1 : (((w.alloc (.cells #[.int .i64 gr, .slice A n c] 27)).alloc (.cells clZ 73)).alloc (.cells (clG gr) 73)).heap[w.heap.size]? = some (.cells #[.int .i64 gr, .slice A n c] 27 (0, 0)) :=
    ((Below.heap_alloc _ _ _ (by simp; omega)).trans (Below.heap_alloc _ _ _ (by simp))).trans (heap_alloc_new w _)
  have hg2 : (((w.alloc (.cells #[.int .i64 gr, .slice A n c] 27)).alloc (.cells clZ 73)).alloc (.cells (clG gr) 73)).heap[w.heap.size + 1]? = some (.cells clZ 73 (0, 0)) := by
    refine (Below.heap_alloc _ _ _ (by simp)).trans ?_
    have h := heap_alloc_new (w.alloc (.cells #[.int .i64 gr, .slice A n c] 27)) (.cells clZ 73)
    simpa using h
  have hg3 : (((w.alloc (.cells #[.int .i64 gr, .slice A n c] 27)).alloc (.cells clZ 73)).alloc (.cells (clG gr) 73)).heap[w.heap.size + 1 + 1]? = some (.cells (clG gr) 73 (0, 0)) := by
    have h := heap_alloc_new ((w.alloc (.cells #[.int .i64 gr, .slice A n c] 27)).alloc (.cells clZ 73)) (.cells (clG gr) 73)
    simpa using h
  have hsz3 : (((w.alloc (.cells #[.int .i64 gr, .slice A n c] 27)).alloc (.cells clZ 73)).alloc (.cells (clG gr) 73)).heap.size = w.heap.size + 3 := by simp
  obtain ⟨w3, hw3⟩ : ∃ w3, w3 = (((w.alloc (.cells #[.int .i64 gr, .slice A n c] 27)).alloc (.cells clZ 73)).alloc (.cells (clG gr) 73)) := ⟨_, rfl⟩
  rw [← hw3] at hb0 hg1 hg2 hg3 hsz3
  obtain ⟨g1, eg1⟩ : ∃ g1, g1 = w.heap.size := ⟨_, rfl⟩
  have HW3 := Lib.hid hw3
  have HB0 := Lib.hid hb0
  have HG2 := Lib.hid hg2
  have HG3 := Lib.hid hg3
  have HS3 := Lib.hid hsz3
  rw [← eg1] at hg1 HG2 HG3 HS3
  have HE1 := Lib.hid eg1
  have k1 : w3.cell? ⟨g1, 1, none⟩ = some (.slice A n c) := (cell_of_row w3 g1 1 _ _ _ hg1).trans rfl
  clear hb0 hg1 hg2 hg3 hsz3 eg1 hw3
  go_upto_region 2 with fail
  rw [show (((w.alloc (.cells #[.int .i64 gr, .slice A n c] 27)).alloc (.cells #[.int .i64 0, .slice none 0 0, .bool false, .slice none 0 0, .bool false, .int .i64 0] 73)).alloc (.cells #[.int .i64 gr, .slice none 0 0, .bool false, .slice none 0 0, .bool false, .int .i64 0] 73)) = w3 from HW3.out.symm, ← HE1.out]
  have LB := Lib.hid (show w.heap.size ≤ w3.heap.size from HB0.out.size)
  go_wp2_with fail
  refine (decode_g A n c l w3 HL.out HLL.out (HR.out.below HB0.out) HNIL.out).mono ?_
  rintro e w4 ⟨hb4, hd⟩
  have B4 := Lib.hid hb4
  have BB4 := Lib.hid (below_below HB0.out HB0.out.size hb4)
  have HG24 := Lib.hid (show SixAt w4 (g1 + 1) _ _ _ _ _ _ from ⟨(hb4.block (g1 + 1) (by have := HS3.out; omega)).trans HG2.out⟩)
  have HG34 := Lib.hid (show SixAt w4 (g1 + 1 + 1) _ _ _ _ _ _ from ⟨(hb4.block (g1 + 1 + 1) (by have := HS3.out; omega)).trans HG3.out⟩)
  clear hb4 k1
  rcases hd with ⟨why, en, hde, rfl⟩ | ⟨M, v, hde, rfl, hvo, hMh, hMt, hMl⟩
  · have hne : (why != 0) = true := by simpa using decS_ne hde
    have HDE := Lib.hid hde
    clear hde
    have f5 := HG34.out.f.2.2.2.2.2
    have c5 := HG34.out.c.2.2.2.2.2
    obtain ⟨hg5, hu5⟩ := HG34.out.s5 (.int .i64 en)
    obtain ⟨w5, hw5⟩ : ∃ w5, w5 = w4.setCell ⟨g1 + 1 + 1, 5, none⟩ (.int .i64 en) := ⟨_, rfl⟩
    rw [← hw5] at hg5 hu5
    have HU5 := Lib.hid hu5
    have HG5 := Lib.hid hg5
    have HZ5 := Lib.hid (HG24.out.upd hu5 (by omega))
    have HW5 := Lib.hid hw5
    clear hg5 hu5 hw5
    go_upto_region 5 with fail
    rw [← HW5.out]
    clear f5 c5
    obtain ⟨k0, k1, k2, k3, k4, k5⟩ := HG5.out.c
    obtain ⟨y0, y1, y2, y3, y4, y5⟩ := HZ5.out.c
    obtain ⟨f0, f1, f2, f3, f4, f5⟩ := HZ5.out.f
    go_wp2_with fail
    try simp only [Exit.inBlock, Exit.then]
    obtain ⟨hf1, hf2⟩ := HZ5.out.six _ _ _ _ _ _ _ rfl
    refine bodyPost_ret (v := .agg #[.int .i64 gr, .slice none 0 0, .bool false, .slice none 0 0, .bool false, .int .i64 en]) ?_ rfl ?_
    · exact results_cell_row rfl _ _ (g1 + 1) 73 _ (0, 0) _ rfl hf1.at_ Try.underlying73 rfl infoCl
    · have hBB := below_upd (below_upd BB4.out BB4.out.size HU5.out (fun k hk => by have := HE1.out; omega)) (Nat.le_trans BB4.out.size HU5.out.size) hf2 (fun k hk => by have := HE1.out; omega)
      refine ⟨⟨gr, none, 0, [], false, none, 0, [], false, en⟩, rfl, hBB, ⟨rfl, ?_⟩, fun p hp => ⟨⟨(by intro h; exact absurd h (by simp [lv])), fun h => absurd h (by simp [lv])⟩, ⟨(by intro h; exact absurd h (by simp [rmc])), fun h => absurd h (by simp [rmc])⟩, (fun m hm => by cases hm), (fun x hx => by cases hx), (fun x hx => by cases hx), Nat.zero_le _, Nat.zero_le _, Nat.zero_le _⟩⟩
      rw [HDE.out]
      exact ⟨rfl, rfl, rfl, rfl, rfl⟩
  · obtain ⟨bl, cl, rfl, hcl⟩ := own_slice hvo
    have HDE := Lib.hid hde
    have HVO := Lib.hid hvo
    have HMH := Lib.hid hMh
    have HMT := Lib.hid hMt
    have HML := Lib.hid hMl
    clear hde hvo hMh hMt hMl hcl
    obtain ⟨k0, k1, k2, k3, k4, k5⟩ := HG34.out.c
    obtain ⟨f0, f1, f2, f3, f4, f5⟩ := HG34.out.f
    obtain ⟨hg6, hu6⟩ := HG34.out.s124 (.slice bl M.length cl) (.bool true) (.bool true)
    obtain ⟨w6, hw6⟩ : ∃ w6, w6 = ((w4.setCell ⟨g1 + 1 + 1, 1, none⟩ (.slice bl M.length cl)).setCell ⟨g1 + 1 + 1, 2, none⟩ (.bool true)).setCell ⟨g1 + 1 + 1, 4, none⟩ (.bool true) := ⟨_, rfl⟩
    rw [← hw6] at hg6 hu6
    have HU6 := Lib.hid hu6
    have HG6 := Lib.hid hg6
    have HZ6 := Lib.hid (HG24.out.upd hu6 (by omega))
    have HVO6 := Lib.hid (own_upd HVO.out hu6 (fun k hk e => by have := (World.ownsRow.lt HVO.out k hk).1; have := HS3.out; omega))
    have HW6 := Lib.hid hw6
    have BB6 := Lib.hid (below_upd BB4.out BB4.out.size hu6 (fun k hk => by have := HE1.out; omega))
    have HS6 := Lib.hid (show g1 + 1 + 1 < w6.heap.size from hg6.lt)
    clear hg6 hu6 hw6
    go_upto_region 7 with fail
    rw [← HW6.out]
    clear k0 k1 k2 k3 k4 k5 f0 f1 f2 f3 f4 f5
    have HEND := Lib.hid (show ∀ (wx : World) (ms : List Rm) (Av : Option Addr) (cv : Nat) (W : World), Upd (fun k => k = g1 + 1) wx W → Upd (fun k => k = g1 + 1 + 1) w6 wx → wx.ownsRow w6.heap.size 24 4 (.slice Av ms.length cv) ms.length (rmc ms) → (∀ m ∈ ms, GI wx w6.heap.size (.slice Av ms.length cv) m) → Below w.heap.size w W ∧ ∀ p, p < w.heap.size → RCo W p bl (lv M) ∧ RCo W p Av (rmc ms) ∧ ∀ m ∈ ms, RCo W p m.A (m.groups.map (Value.int .i64)) ∧ m.groups.length ≤ 100000000 from by
      intro wx ms Av cv W hu1 hu2 ho hg
      have he := HE1.out
      have hs6 := HS6.out
      have hs3 := HS3.out
      have hz6 := HZ6.out.lt
      have hbx := below_upd BB6.out BB6.out.size hu2 (fun k hk => by omega)
      have hbW := below_upd hbx hbx.size hu1 (fun k hk => by omega)
      refine ⟨hbW, fun p hp => ⟨RCo.of_own (own_upd (own_upd HVO6.out hu2 (fun k hk e => by have := (World.ownsRow.lt HVO6.out k hk).1; omega)) hu1 (fun k hk e => by have := (World.ownsRow.lt HVO6.out k hk).1; omega)) (by omega), RCo.of_own (own_upd ho hu1 (fun k hk e => by have := (World.ownsRow.lt ho k hk).1; omega)) (by omega), fun m hm => ?_⟩⟩
      have hgm := (hg m hm).upd hu1 (fun h0 ad e hk => by have := ((hg m hm).2.2 h0 ad e).1; omega)
      exact ⟨⟨hgm.1, fun h0 ad e hk => by have := (hgm.2.2 (by simpa using h0) ad e).1; omega⟩, Nat.le_trans hgm.2.1 (by decide)⟩)
    go_wp2_with fail
    go_loopg [32] M.length (fun k s32 wr => ∃ (i : Nat) (ms : List Rm) (vr : Value), i ≤ M.length ∧ k = M.length - i ∧ s32 = .int .i64 (i : Int) ∧ ms.length = i ∧ recsOf M = (ms.map Rm.p ++ (recsOf (M.drop i)).1, (recsOf (M.drop i)).2) ∧ SixAt wr (g1 + 1 + 1) (.int .i64 gr) (.slice bl M.length cl) (.bool true) vr (.bool true) (.int .i64 0) ∧ wr.ownsRow w6.heap.size 24 4 vr i (rmc ms) ∧ (∀ m ∈ ms, GI wr w6.heap.size vr m) ∧ Upd (fun k => k = g1 + 1 + 1) w6 wr)
    case atStart => exact ⟨0, [], _, Nat.zero_le _, by omega, rfl, rfl, by simp, HG6.out, World.ownsRow_nil _ _ _ _, (fun m hm => by cases hm), Upd.refl _ _⟩
    case round =>
      obtain ⟨i, ms, vr, hi, hk, rfl, hms, hrc, hsx, hvr, hgi, hu⟩ := hrel
      obtain ⟨Av, cv, rfl, hcv⟩ := own_slice hvr
      have HK := Lib.hid hk
      subst hms
      have HRC := Lib.hid hrc
      have HSX := Lib.hid hsx
      have HVR := Lib.hid hvr
      have HGI := Lib.hid hgi
      have HU := Lib.hid hu
      have HCV := Lib.hid hcv
      clear hk hrc hsx hvr hgi hu hcv
      by_cases hlt : ms.length < M.length
      · obtain ⟨b1, o1, rfl, e1⟩ := (own_RC HVO6.out).parts (by rw [lv_length M HMH.out]; omega)
        have e2 := (own_RC (own_upd HVO6.out HU.out (fun k hk e => by have := (World.ownsRow.lt HVO6.out k hk).1; have := HS3.out; omega)))
        have e1' : ∀ j u, (lv M)[j]? = some u → wr.cell? ⟨b1, o1 + j, none⟩ = some u := by
          obtain ⟨b1', o1', e3, e4⟩ := e2.parts (by rw [lv_length M HMH.out]; omega)
          cases e3
          exact e4
        have HRG := Lib.hid (lk_range HMH.out e1' ms.length hlt)
        have hhl := HMH.out _ (List.getElem_mem hlt)
        have htl := HMT.out _ (List.getElem_mem hlt)
        have HRN := Lib.hid (fun h => recsOf_none hlt h)
        have HRS := Lib.hid (fun r h => recsOf_some (r := r) hlt h)
        generalize M[ms.length] = x at *
        have hlkl := lk_length x hhl
        obtain ⟨lc, elc⟩ : ∃ lc, lc = lk x := ⟨_, rfl⟩
        have hfst : lc = .string (strB x.1) :: bv x.2 := elc
        rw [← elc] at hlkl HRG
        have hil : (Try.prog.info? 92).map (·.size) = some lc.length := by rw [hlkl]; exact info33
        have hone : lc.toArray.all (·.oneCell') = true := by rw [elc]; exact all_oneCell_toArray (lk_one x)
        have hi0 : (0 : Int) ≤ (ms.length : Int) := by omega
        have hi1 : (ms.length : Int) < (M.length : Int) := by omega
        have HLT := Lib.hid hlt
        have HIL := Lib.hid hil
        have HLKL := Lib.hid hlkl
        have HONE := Lib.hid hone
        have HFST := Lib.hid hfst
        have HTL := Lib.hid htl
        clear e1 e2 e1' hhl htl hil hlkl hone hfst elc hlt hi
        go_upto_region 9 with fail
        refine wp_region_lit ?_
        refine Great.wpList_readTo rfl _ rfl (.int .i64 (ms.length : Int)) rfl ?_
        refine Great.wpList_readTo rfl _ rfl (.pointer (some ⟨b1, o1 + ms.length * 33, none⟩)) ?h1 ?_
        case h1 =>
          simp only [execOp]
          go_simp
        refine wpList_load_mid rfl 92 (.tmp 35) rfl b1 (o1 + ms.length * 33) rfl lc _ HRG.out Try.underlying92 rfl HIL.out ?_
        obtain ⟨z, hz⟩ : ∃ z, z = wr.heap.size := ⟨_, rfl⟩
        refine Great.wpList_allocTo rfl _ rfl (.pointer (some ⟨z, 0, none⟩)) (.cells z33 92) ?h2 ?_
        case h2 => rw [HZ33.out, hz]; kernel_rfl
        refine Great.wpList_readTo rfl _ rfl (.int .i64 (ms.length : Int)) rfl ?_
        refine wpList_store_row rfl 92 (.tmp 8) (.tmp 36) rfl z lc.toArray rfl rfl 92 z33 (by rw [hz]; exact heap_alloc_new wr _) (by rw [List.size_toArray]; exact HIL.out) (by rw [HZ33.out, List.size_toArray, List.size_toArray, HLKL.out]; rfl) HONE.out ?_
        refine wpList_nil ?_
        rename_i hK
        refine hK _ _ ?_
        clear hK
        obtain ⟨w7, hw7⟩ : ∃ w7, w7 = (wr.alloc (.cells z33 92)).setRow z lc.toArray := ⟨_, rfl⟩
        rw [← hw7]
        have hz7 : w7.heap[z]? = some (.cells lc.toArray 92) := by rw [hw7, hz]; exact setRow_heap _ _ _ _ _ _ (heap_alloc_new wr _)
        have cz : w7.cell? ⟨z, 0, none⟩ = some (.string (strB x.1)) := by
          rw [cell_of_row w7 z 0 _ _ _ hz7, HFST.out]
          rfl
        have HB7 := Lib.hid (show Below wr.heap.size wr w7 by rw [hw7]; exact below_setRow ((Below.refl _ _).alloc (Nat.le_refl _) _) _ _ (by omega))
        clear hw7 hz7 hz
        go_wp2_with fail
        refine (read_any x.1 w7 (by have := HTL.out; omega)).mono ?_
        rintro e w8 ⟨hb8, hres⟩
        have HB8 := Lib.hid (below_below HB7.out HB7.out.size hb8)
        have HB78 := Lib.hid hb8
        clear hb8 cz
        rcases hres with ⟨hrn, rfl⟩ | ⟨r, Ar, cr, hrs, rfl, hro⟩
        · unfold recZ
          have HRN1 := Lib.hid (HRN.out hrn)
          have hb9 : Below w8.heap.size w8 (w8.alloc (.cells #[.int .i64 0, .string ⟨#[]⟩, .slice none 0 0, .string ⟨#[]⟩] 24)) := (Below.refl _ _).alloc (Nat.le_refl _) _
          obtain ⟨w9, hw9⟩ : ∃ w9, w9 = w8.alloc (.cells #[.int .i64 0, .string ⟨#[]⟩, .slice none 0 0, .string ⟨#[]⟩] 24) := ⟨_, rfl⟩
          rw [← hw9] at hb9
          have HW9 := Lib.hid hw9
          have HB9 := Lib.hid (below_below HB8.out HB8.out.size hb9)
          clear hrn hb9 hw9
          go_upto_region 11 with fail
          rw [← HW9.out]
          have HS9 := Lib.hid (HSX.out.below HB9.out)
          obtain ⟨k0, k1, k2, k3, k4, k5⟩ := HS9.out.c
          obtain ⟨f0, f1, f2, f3, f4, f5⟩ := HS9.out.f
          obtain ⟨hg, hu⟩ := HS9.out.s45 (.bool false) (.int .i64 (ms.length : Int))
          obtain ⟨wx, hwx⟩ : ∃ wx, wx = (w9.setCell ⟨g1 + 1 + 1, 4, none⟩ (.bool false)).setCell ⟨g1 + 1 + 1, 5, none⟩ (.int .i64 (ms.length : Int)) := ⟨_, rfl⟩
          rw [← hwx] at hg hu
          have HWX := Lib.hid hwx
          have HGE := Lib.hid hg
          have hu9 := HU.out.below HB9.out
          have HUE := Lib.hid (hu9.trans hu (fun _ _ h => h))
          have HZE := Lib.hid ((HZ6.out.upd hu9 (by omega)).upd hu (by omega))
          have HOE := Lib.hid (show wx.ownsRow w6.heap.size 24 4 (.slice Av ms.length cv) ms.length (rmc ms) by
            exact own_upd (own_below HVR.out HB9.out) hu (fun k hk e => by have := (World.ownsRow.lt HVR.out k hk).1; have := HS6.out; omega))
          have HGIE := Lib.hid (show ∀ m ∈ ms, GI wx w6.heap.size (.slice Av ms.length cv) m from fun m hm => by
            exact ((HGI.out m hm).below HB9.out).upd hu (fun h0 ad e hk => by have := ((HGI.out m hm).2.2 h0 ad e).1; have := HS6.out; omega))
          have HMSL := Lib.hid (show ms.length ≤ 4096 by have := HLT.out; have := HML.out; omega)
          have HCV := Lib.hid (show ms.length ≤ cv by exact HCV.out)
          have HRES := Lib.hid (show ms.map Rm.p = (recsOf M).1 ∧ false = (recsOf M).2 ∧ (ms.length : Int) = if (recsOf M).2 then 0 else ((recsOf M).1.length : Int) by
            have h := HRC.out
            rw [HRN1.out, List.append_nil] at h
            rw [h]
            refine ⟨rfl, rfl, ?_⟩
            show (ms.length : Int) = ((ms.map Rm.p).length : Int)
            rw [List.length_map])
          clear hg hu hu9 hwx
          go_upto_region 15 with fail
          rw [show (w9.setCell ⟨g1 + 1 + 1, 4, none⟩ (.bool false)).setCell ⟨g1 + 1 + 1, 5, none⟩ (.int .i64 (ms.length : Int)) = wx from HWX.out.symm]
          clear k0 k1 k2 k3 k4 k5 f0 f1 f2 f3 f4 f5
          obtain ⟨k0, k1, k2, k3, k4, k5⟩ := HGE.out.c
          obtain ⟨y0, y1, y2, y3, y4, y5⟩ := HZE.out.c
          obtain ⟨f0, f1, f2, f3, f4, f5⟩ := HZE.out.f
          go_wp2_with fail
          try simp only [Exit.inBlock, Exit.then]
          obtain ⟨hf1, hf2⟩ := HZE.out.six _ _ _ _ _ _ _ rfl
          refine bodyPost_ret (v := .agg #[.int .i64 gr, .slice (some ⟨b1, o1, none⟩) M.length cl, .bool true, .slice Av ms.length cv, .bool false, .int .i64 (ms.length : Int)]) ?_ rfl ?_
          · exact results_cell_row rfl _ _ (g1 + 1) 73 _ (0, 0) _ rfl hf1.at_ Try.underlying73 rfl infoCl
          · obtain ⟨hBB, hcf⟩ := HEND.out _ _ _ _ _ hf2 HUE.out HOE.out HGIE.out
            refine ⟨⟨gr, some ⟨b1, o1, none⟩, cl, M, true, Av, cv, ms, false, (ms.length : Int)⟩, rfl, hBB, ⟨rfl, ?_⟩, fun p hp => ⟨(hcf p hp).1, (hcf p hp).2.1, (hcf p hp).2.2, HMH.out, HMT.out, Nat.le_trans HML.out (by decide), Nat.le_trans HMSL.out (by decide), HCV.out⟩⟩
            rw [HDE.out]
            exact ⟨rfl, rfl, HRES.out.1, HRES.out.2.1, HRES.out.2.2⟩
        · simp only [Rp.m, Rm.cells]
          have hb9 : Below w8.heap.size w8 (w8.alloc (.cells #[.int .i64 r.kind, .string (strB r.tx), .slice Ar r.groups.length cr, .string (strB r.body)] 24)) := (Below.refl _ _).alloc (Nat.le_refl _) _
          have hx9 := heap_alloc_new w8 (.cells #[.int .i64 r.kind, .string (strB r.tx), .slice Ar r.groups.length cr, .string (strB r.body)] 24)
          obtain ⟨w9, hw9⟩ : ∃ w9, w9 = w8.alloc (.cells #[.int .i64 r.kind, .string (strB r.tx), .slice Ar r.groups.length cr, .string (strB r.body)] 24) := ⟨_, rfl⟩
          rw [← hw9] at hb9 hx9
          obtain ⟨g9, eg9⟩ : ∃ g9, g9 = w8.heap.size := ⟨_, rfl⟩
          rw [← eg9] at hx9
          have HW9 := Lib.hid hw9
          have HE9 := Lib.hid eg9
          have HB9 := Lib.hid (below_below HB8.out HB8.out.size hb9)
          have q0 : ∀ ob, (w9.alloc ob).cell? ⟨g9, 0, none⟩ = some (.int .i64 r.kind) := fun ob => Lib.cell?_alloc_some ob ((cell_of_row w9 g9 0 _ _ _ hx9).trans rfl)
          have p0 : w9.cell? ⟨g9, 0, none⟩ = some (.int .i64 r.kind) := (cell_of_row w9 g9 0 _ _ _ hx9).trans rfl
          have p1 : w9.cell? ⟨g9, 1, none⟩ = some (.string (strB r.tx)) := (cell_of_row w9 g9 1 _ _ _ hx9).trans rfl
          have p2 : w9.cell? ⟨g9, 2, none⟩ = some (.slice Ar r.groups.length cr) := (cell_of_row w9 g9 2 _ _ _ hx9).trans rfl
          have p3 : w9.cell? ⟨g9, 3, none⟩ = some (.string (strB r.body)) := (cell_of_row w9 g9 3 _ _ _ hx9).trans rfl
          have HGN := Lib.hid (show GI w9 w6.heap.size (.slice Av ms.length cv) (r.m Ar cr) from by
            have hro9 := own_below hro hb9
            refine ⟨own_RC hro9, readS_groups hrs, fun h0 ad e => ?_⟩
            have hA : Ar = some ad := e
            have h1 := World.ownsRow.lt hro9 ad.block (by rw [hA]; rfl)
            have h2 := World.ownsRow.lt hro ad.block (by rw [hA]; rfl)
            have h3 := HU.out.size
            have h4 := HB7.out.size
            refine ⟨by omega, h1.2, fun h5 => ?_⟩
            have h6 := (World.ownsRow.lt HVR.out ad.block h5).2
            omega)
          have HRS1 := Lib.hid (HRS.out r hrs)
          clear hb9 hx9 hw9 eg9 hrs hro q0
          have HSX9 := Lib.hid (HSX.out.below HB9.out)
          have HVR9 := Lib.hid (own_below HVR.out HB9.out)
          have HS69 := Lib.hid (show w6.heap.size ≤ w9.heap.size from Nat.le_trans HU.out.size HB9.out.size)
          have k3 := HSX9.out.c.2.2.2.1
          have hml : ms.length ≤ 4096 := by have := HLT.out; have := HML.out; omega
          have HML2 := Lib.hid hml
          clear hml
          go_upto_region 13 with fail
          rw [← HW9.out, ← HE9.out]
          go_wp2_with (at_builtin; refine append_any rfl (.tmp 49) (.tmp 51) 29 rfl w6.heap.size 24 (.agg recZ) 4 64 Try.underlying29 infoRecA rfl (by omega) (by omega) _ ms.length (rmc ms) rfl (HVR9.out.alloc _) _ 1 1 [.int .i64 r.kind, .string (strB r.tx), .slice Ar r.groups.length cr, .string (strB r.body)] rfl rfl (RC_newL _ [.int .i64 r.kind, .string (strB r.tx), .slice Ar r.groups.length cr, .string (strB r.body)] 24) (by intro u hu; simp only [List.mem_cons, List.not_mem_nil, or_false] at hu; rcases hu with rfl | rfl | rfl | rfl <;> rfl) ?c1 ?c2 ?_)
          case c1 => have := HML2.out; omega
          case c2 => have := HS69.out; simp; omega
          intro v10 w10 ho10 hg10 hat10
          have hua : Upd (fun k => (Value.slice Av ms.length cv).ownBlock = some k) w9 w10 := ((Upd.refl _ w9).alloc _).grown hg10 (fun k hk _ => hk)
          have hlo : ∀ k, (Value.slice Av ms.length cv).ownBlock = some k → w6.heap.size ≤ k := fun k hk => (World.ownsRow.lt HVR.out k hk).1
          have HGI10 := Lib.hid (show ∀ m ∈ ms ++ [r.m Ar cr], GI w10 w6.heap.size v10 m from fun m hm => by
            have h9 : GI w9 w6.heap.size (.slice Av ms.length cv) m := by
              rcases List.mem_append.1 hm with h | h
              · exact (HGI.out m h).below HB9.out
              · rw [List.mem_singleton.1 h]
                exact HGN.out
            have h10 := h9.upd hua (fun h0 ad e => (h9.2.2 h0 ad e).2.2)
            refine ⟨h10.1, h10.2.1, fun h0 ad e => ⟨(h10.2.2 h0 ad e).1, (h10.2.2 h0 ad e).2.1, fun h5 => ?_⟩⟩
            rcases hat10 with h | h
            · exact (h9.2.2 h0 ad e).2.2 (h.symm.trans h5)
            · rw [h] at h5
              have h6 := Option.some.inj h5
              have h7 := (h9.2.2 h0 ad e).2.1
              omega)
          have HSX10 := Lib.hid (HSX9.out.upd hua (fun e => by have := hlo _ e; have := HS6.out; omega))
          have HU10 := Lib.hid ((HU.out.below HB9.out).trans hua (fun k hk e => by have := hlo _ e; omega))
          have HO10 := Lib.hid (show w10.ownsRow w6.heap.size 24 4 v10 (ms.length + 1) (rmc (ms ++ [r.m Ar cr])) by rw [rmc_append]; exact ho10)
          obtain ⟨A10, c10, rfl, _⟩ := own_slice ho10
          have f3 := HSX10.out.f.2.2.2.1
          have d3 := HSX10.out.c.2.2.2.1
          obtain ⟨hs11, hu11⟩ := HSX10.out.s3 (.slice A10 (ms.length + 1) c10)
          have HS11 := Lib.hid hs11
          have HU11 := Lib.hid hu11
          clear ho10 hg10 hat10 hua hlo hs11 hu11 k3 p0 p1 p2 p3
          go_wp2_with fail
          go_roundg (M.length - (ms.length + 1))
          case measure => have := HK.out; have := HLT.out; omega
          case rel =>
            refine ⟨ms.length + 1, ms ++ [r.m Ar cr], .slice A10 (ms.length + 1) c10, HLT.out, rfl, (by have := HML2.out; rw [wrap64_small (by omega) (by omega)]; rfl), by simp, ?_, HS11.out, ?_, ?_, HU10.out.trans HU11.out (fun _ _ h => h)⟩
            · rw [HRC.out, HRS1.out]
              simp only [List.map_append, List.map_cons, List.map_nil, List.append_assoc, List.cons_append, List.nil_append]
              rfl
            · exact own_upd HO10.out HU11.out (fun k hk e => by have := (World.ownsRow.lt HO10.out k hk).1; have := HS6.out; omega)
            · exact fun m hm => (HGI10.out m hm).upd HU11.out (fun h0 ad e hk => by have := ((HGI10.out m hm).2.2 h0 ad e).1; have := HS6.out; omega)
      · have hle : ms.length = M.length := by omega
        have HLM := Lib.hid hle
        have HGE := Lib.hid (show SixAt wr (g1 + 1 + 1) (.int .i64 gr) (.slice bl M.length cl) (.bool true) (.slice Av ms.length cv) (.bool true) (.int .i64 0) by exact HSX.out)
        have HUE := HU
        have HZE := Lib.hid (HZ6.out.upd HU.out (by omega))
        have HOE := Lib.hid (show wr.ownsRow w6.heap.size 24 4 (.slice Av ms.length cv) ms.length (rmc ms) by exact HVR.out)
        have HGIE := Lib.hid (show ∀ m ∈ ms, GI wr w6.heap.size (.slice Av ms.length cv) m by exact HGI.out)
        have HMSL := Lib.hid (show ms.length ≤ 4096 by have := HML.out; omega)
        have HCV := Lib.hid (show ms.length ≤ cv by exact HCV.out)
        have HRES := Lib.hid (show ms.map Rm.p = (recsOf M).1 ∧ true = (recsOf M).2 ∧ (0 : Int) = if (recsOf M).2 then 0 else ((recsOf M).1.length : Int) by
          have h := HRC.out
          rw [HLM.out, List.drop_length, show recsOf [] = ([], true) by rw [recsOf], List.append_nil] at h
          rw [h]
          exact ⟨rfl, rfl, rfl⟩)
        have hnl : ¬ ((ms.length : Int) < (M.length : Int)) := by omega
        clear hlt hi hle
        go_upto_region 15 with fail
        obtain ⟨k0, k1, k2, k3, k4, k5⟩ := HGE.out.c
        obtain ⟨y0, y1, y2, y3, y4, y5⟩ := HZE.out.c
        obtain ⟨f0, f1, f2, f3, f4, f5⟩ := HZE.out.f
        go_wp2_with fail
        try simp only [Exit.inBlock, Exit.then]
        obtain ⟨hf1, hf2⟩ := HZE.out.six _ _ _ _ _ _ _ rfl
        refine bodyPost_ret (v := .agg #[.int .i64 gr, .slice bl M.length cl, .bool true, .slice Av ms.length cv, .bool true, .int .i64 0]) ?_ rfl ?_
        · exact results_cell_row rfl _ _ (g1 + 1) 73 _ (0, 0) _ rfl hf1.at_ Try.underlying73 rfl infoCl
        · obtain ⟨hBB, hcf⟩ := HEND.out _ _ _ _ _ hf2 HUE.out HOE.out HGIE.out
          refine ⟨⟨gr, bl, cl, M, true, Av, cv, ms, true, 0⟩, rfl, hBB, ⟨rfl, ?_⟩, fun p hp => ⟨(hcf p hp).1, (hcf p hp).2.1, (hcf p hp).2.2, HMH.out, HMT.out, Nat.le_trans HML.out (by decide), Nat.le_trans HMSL.out (by decide), HCV.out⟩⟩
          rw [HDE.out]
          exact ⟨rfl, rfl, HRES.out.1, HRES.out.2.1, HRES.out.2.2⟩
end Go.Proofs.Ytjakhemolecbnaa
end
