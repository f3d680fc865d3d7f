/-
  The texts Rule2, Off of this proof in one (what is used of them): what each proves is said at its head. No conditions beyond those that each theorem says.
-/
import Derived.Test.YtjakhemolecbnaaNE3
import Derived.Test.YtjakhemolecbnaaNA2

/-
  The walks of the verifier's rules: twice, both, bare, strange.
-/
section
set_option linter.unusedVariables false
set_option linter.unusedSimpArgs false
namespace Go.Proofs.Ytjakhemolecbnaa
open Go.RowKit

def twiceS (l : List Rm) (m : Rm) : Bool := decide (m.kind = 3) && (l.any (ofP 3 m.tx) || l.any (ofP 4 m.tx)) || decide (m.kind = 4) && l.any (ofP 3 m.tx)
def bothS (cs : List Cm) (i : Int) (m : Rm) : Bool := decide (m.kind = 3) && othersS cs i (ofP 4 m.tx) || decide (m.kind = 4) && othersS cs i (ofP 3 m.tx)
def bareS (l : List Rm) (m : Rm) : Bool := decide (m.kind = 3) && !l.any (ofP 2 m.tx)
def strangeS (cs : List Cm) (i : Int) (gr : Int) (m : Rm) : Bool := decide (m.kind = 3) && (!decide (gr ∈ m.groups) || othersS cs i (strP m.tx m.groups))
/-- A record in a block of its own. -/
def BoxAt (w : World) (g : Nat) (m : Rm) : Prop := w.heap[g]? = some (.cells m.cells.toArray 24 (0, 0))
theorem BoxAt.below {w w' : World} {g : Nat} {m : Rm} (h : BoxAt w g m) (hb : Below w.heap.size w w') : BoxAt w' g m := (hb.block g (Array.getElem?_eq_some_iff.1 h).1).trans h
theorem BoxAt.c0 {w : World} {g : Nat} {m : Rm} (h : BoxAt w g m) : w.cell? ⟨g, 0, none⟩ = some (.int .i64 m.kind) := (cell_of_row w g 0 _ _ _ h).trans rfl
theorem BoxAt.c1 {w : World} {g : Nat} {m : Rm} (h : BoxAt w g m) : w.cell? ⟨g, 1, none⟩ = some (.string (strB m.tx)) := (cell_of_row w g 1 _ _ _ h).trans rfl
theorem BoxAt.c2 {w : World} {g : Nat} {m : Rm} (h : BoxAt w g m) : w.cell? ⟨g, 2, none⟩ = some (.slice m.A m.groups.length m.c) := (cell_of_row w g 2 _ _ _ h).trans rfl
theorem box_new (w : World) (m : Rm) : BoxAt (w.alloc (.cells m.cells.toArray 24)) w.heap.size m := heap_alloc_new w _

set_option maxHeartbeats 4000000 in
theorem bare_any (p : Nat) (vA : Option Addr) (vc : Nat) (cs : List Cm) (b : Int × Int × Int) (i at' : Nat) (c : Cm) (m : Rm) (w : World) (h : VF w p vA vc cs b) (hc : cs[i]? = some c) (ha : at' ≤ c.recs.length) :
    Calls Try.prog 30 #[.pointer (some ⟨p, 0, none⟩), .int .i64 (i : Int), .int .i64 (at' : Int), .agg m.cells.toArray] w fun e w' => e = .returned (.bool (bareS (c.recs.take at') m)) ∧ Below w.heap.size w w' := by
  have hbx := box_new w m
  have hb1 : Below w.heap.size w (w.alloc (.cells m.cells.toArray 24)) := (Below.refl _ _).alloc (Nat.le_refl _) _
  obtain ⟨w1, hw1⟩ : ∃ w1, w1 = w.alloc (.cells m.cells.toArray 24) := ⟨_, rfl⟩
  rw [← hw1] at hbx hb1
  have BX := Lib.hid hbx
  have HB1 := Lib.hid hb1
  have HW1 := Lib.hid hw1
  have HV := Lib.hid (h.below hb1)
  have HC := Lib.hid hc
  have HA := Lib.hid ha
  clear ha
  clear hbx hb1 hw1 h hc
  obtain ⟨q, hq⟩ : ∃ q, bareS (c.recs.take at') m = q := ⟨_, rfl⟩
  rw [hq]
  unfold bareS at hq
  have k0 := BX.out.c0
  have k1 := BX.out.c1
  obtain ⟨z, hz⟩ : ∃ z, z = strB m.tx := ⟨_, rfl⟩
  rw [← hz] at k1
  have HZ := Lib.hid hz
  obtain ⟨gb, hgb⟩ : ∃ gb, gb = w.heap.size := ⟨_, rfl⟩
  rw [← hgb] at k0 k1 BX
  have HGB := Lib.hid hgb
  clear hz hgb
  by_cases hk : m.kind = 3
  · have hk1 : (m.kind == 3) = true := by simpa using hk
    obtain ⟨qa, hqa⟩ : ∃ qa, (c.recs.take at').any (ofP 2 m.tx) = qa := ⟨_, rfl⟩
    have HQQ := Lib.hid (show (!qa) = q by rw [← hq, ← hqa]; simp [hk])
    have Hqa := Lib.hid hqa
    have B1 := Lib.hid (Below.refl w1.heap.size w1)
    clear hk hq hqa
    go_enter Try.func30, Try.ntmps30
    go_upto_region 1 with fail
    rw [← HW1.out, ← HGB.out]
    go_wp2_with fail
    refine (of_any 2 z w1).mono ?_
    rintro e w2 ⟨g, rfl, h1, h2, hb⟩
    rw [HZ.out] at h2
    have HFw2 := Lib.hid (And.intro h1 h2)
    have Bw2 := Lib.hid (below_below B1.out B1.out.size hb)
    have k0 := (BX.out.below Bw2.out).c0
    have k1 := (BX.out.below Bw2.out).c1
    rw [← HZ.out] at k1
    clear h1 h2 hb
    go_wp2_with fail
    refine (ahead_any p vA vc cs b i at' c g 2 m.tx w2 (HV.out.below Bw2.out) HC.out HA.out HFw2.out).mono ?_
    rw [Hqa.out]
    rintro e w3 ⟨rfl, hb⟩
    have Bw3 := Lib.hid (below_below Bw2.out Bw2.out.size hb)
    have k0 := (BX.out.below Bw3.out).c0
    have k1 := (BX.out.below Bw3.out).c1
    rw [← HZ.out] at k1
    clear hb
    go_wp2_with fail
    go_ret
    exact ⟨ret_bool HQQ.out, below_below HB1.out HB1.out.size Bw3.out⟩
  · have hk1 : (m.kind == 3) = false := by simpa using hk
    have HQQ := Lib.hid (show false = q by rw [← hq]; simp [hk])
    have Bw1 := Lib.hid (Below.refl w1.heap.size w1)
    clear hk hq
    go_enter Try.func30, Try.ntmps30
    go_upto_region 1 with fail
    rw [← HW1.out, ← HGB.out]
    go_wp2_with fail
    go_ret
    exact ⟨ret_bool HQQ.out, below_below HB1.out HB1.out.size Bw1.out⟩

set_option maxHeartbeats 4000000 in
theorem twice_any (p : Nat) (vA : Option Addr) (vc : Nat) (cs : List Cm) (b : Int × Int × Int) (i at' : Nat) (c : Cm) (m : Rm) (w : World) (h : VF w p vA vc cs b) (hc : cs[i]? = some c) (ha : at' ≤ c.recs.length) :
    Calls Try.prog 28 #[.pointer (some ⟨p, 0, none⟩), .int .i64 (i : Int), .int .i64 (at' : Int), .agg m.cells.toArray] w fun e w' => e = .returned (.bool (twiceS (c.recs.take at') m)) ∧ Below w.heap.size w w' := by
  have hbx := box_new w m
  have hb1 : Below w.heap.size w (w.alloc (.cells m.cells.toArray 24)) := (Below.refl _ _).alloc (Nat.le_refl _) _
  obtain ⟨w1, hw1⟩ : ∃ w1, w1 = w.alloc (.cells m.cells.toArray 24) := ⟨_, rfl⟩
  rw [← hw1] at hbx hb1
  have BX := Lib.hid hbx
  have HB1 := Lib.hid hb1
  have HW1 := Lib.hid hw1
  have HV := Lib.hid (h.below hb1)
  have HC := Lib.hid hc
  have HA := Lib.hid ha
  clear ha
  clear hbx hb1 hw1 h hc
  obtain ⟨q, hq⟩ : ∃ q, twiceS (c.recs.take at') m = q := ⟨_, rfl⟩
  rw [hq]
  unfold twiceS at hq
  have k0 := BX.out.c0
  have k1 := BX.out.c1
  obtain ⟨z, hz⟩ : ∃ z, z = strB m.tx := ⟨_, rfl⟩
  rw [← hz] at k1
  have HZ := Lib.hid hz
  obtain ⟨gb, hgb⟩ : ∃ gb, gb = w.heap.size := ⟨_, rfl⟩
  rw [← hgb] at k0 k1 BX
  have HGB := Lib.hid hgb
  clear hz hgb
  obtain ⟨qa, hqa⟩ : ∃ qa, (c.recs.take at').any (ofP 3 m.tx) = qa := ⟨_, rfl⟩
  obtain ⟨qb, hqb⟩ : ∃ qb, (c.recs.take at').any (ofP 4 m.tx) = qb := ⟨_, rfl⟩
  rw [hqa, hqb] at hq
  have Hqa := Lib.hid hqa
  have Hqb := Lib.hid hqb
  have B1 := Lib.hid (Below.refl w1.heap.size w1)
  clear hqa hqb
  go_enter Try.func28, Try.ntmps28
  go_upto_region 1 with fail
  rw [← HW1.out, ← HGB.out]
  go_wp2_with fail
  refine (of_any 3 z w1).mono ?_
  rintro e w2 ⟨g, rfl, h1, h2, hb⟩
  rw [HZ.out] at h2
  have HFw2 := Lib.hid (And.intro h1 h2)
  have Bw2 := Lib.hid (below_below B1.out B1.out.size hb)
  have k0 := (BX.out.below Bw2.out).c0
  have k1 := (BX.out.below Bw2.out).c1
  rw [← HZ.out] at k1
  clear h1 h2 hb
  go_wp2_with fail
  refine (ahead_any p vA vc cs b i at' c g 3 m.tx w2 (HV.out.below Bw2.out) HC.out HA.out HFw2.out).mono ?_
  rw [Hqa.out]
  rintro e w3 ⟨rfl, hb⟩
  have Bw3 := Lib.hid (below_below Bw2.out Bw2.out.size hb)
  have k0 := (BX.out.below Bw3.out).c0
  have k1 := (BX.out.below Bw3.out).c1
  rw [← HZ.out] at k1
  clear hb
  by_cases hk : m.kind = 3
  · have hk1 : (m.kind == 3) = true := by simpa using hk
    have hk2 : (m.kind == 4) = false := by rw [hk]; rfl
    cases qa with
    | true =>
      have HQQ := Lib.hid (show true = q by rw [← hq]; simp [hk])
      clear hk hq
      go_wp2_with fail
      go_ret
      exact ⟨ret_bool HQQ.out, below_below HB1.out HB1.out.size Bw3.out⟩
    | false =>
      have HQQ := Lib.hid (show qb = q by rw [← hq]; simp [hk])
      clear hk hq
      go_wp2_with fail
      refine (of_any 4 z w3).mono ?_
      rintro e w4 ⟨g, rfl, h1, h2, hb⟩
      rw [HZ.out] at h2
      have HFw4 := Lib.hid (And.intro h1 h2)
      have Bw4 := Lib.hid (below_below Bw3.out Bw3.out.size hb)
      have k0 := (BX.out.below Bw4.out).c0
      have k1 := (BX.out.below Bw4.out).c1
      rw [← HZ.out] at k1
      clear h1 h2 hb
      go_wp2_with fail
      refine (ahead_any p vA vc cs b i at' c g 4 m.tx w4 (HV.out.below Bw4.out) HC.out HA.out HFw4.out).mono ?_
      rw [Hqb.out]
      rintro e w5 ⟨rfl, hb⟩
      have Bw5 := Lib.hid (below_below Bw4.out Bw4.out.size hb)
      have k0 := (BX.out.below Bw5.out).c0
      have k1 := (BX.out.below Bw5.out).c1
      rw [← HZ.out] at k1
      clear hb
      cases qb
      all_goals
        go_wp2_with fail
        go_ret
        exact ⟨ret_bool HQQ.out, below_below HB1.out HB1.out.size Bw5.out⟩
  · have hk1 : (m.kind == 3) = false := by simpa using hk
    by_cases hk4 : m.kind = 4
    · have hk2 : (m.kind == 4) = true := by simpa using hk4
      have HQQ := Lib.hid (show qa = q by rw [← hq]; simp [hk4])
      clear hk hk4 hq
      cases qa
      all_goals
        go_wp2_with fail
        go_ret
        exact ⟨ret_bool HQQ.out, below_below HB1.out HB1.out.size Bw3.out⟩
    · have hk2 : (m.kind == 4) = false := by simpa using hk4
      have HQQ := Lib.hid (show false = q by rw [← hq]; simp [hk, hk4])
      clear hk hk4 hq
      go_wp2_with fail
      go_ret
      exact ⟨ret_bool HQQ.out, below_below HB1.out HB1.out.size Bw3.out⟩

set_option maxHeartbeats 4000000 in
theorem both_any (p : Nat) (vA : Option Addr) (vc : Nat) (cs : List Cm) (b : Int × Int × Int) (i at' : Nat) (c : Cm) (m : Rm) (w : World) (h : VF w p vA vc cs b) (hc : cs[i]? = some c) :
    Calls Try.prog 29 #[.pointer (some ⟨p, 0, none⟩), .int .i64 (i : Int), .int .i64 (at' : Int), .agg m.cells.toArray] w fun e w' => e = .returned (.bool (bothS cs (i : Int) m)) ∧ Below w.heap.size w w' := by
  have hbx := box_new w m
  have hb1 : Below w.heap.size w (w.alloc (.cells m.cells.toArray 24)) := (Below.refl _ _).alloc (Nat.le_refl _) _
  obtain ⟨w1, hw1⟩ : ∃ w1, w1 = w.alloc (.cells m.cells.toArray 24) := ⟨_, rfl⟩
  rw [← hw1] at hbx hb1
  have BX := Lib.hid hbx
  have HB1 := Lib.hid hb1
  have HW1 := Lib.hid hw1
  have HV := Lib.hid (h.below hb1)
  have HC := Lib.hid hc
  clear hbx hb1 hw1 h hc
  obtain ⟨q, hq⟩ : ∃ q, bothS cs (i : Int) m = q := ⟨_, rfl⟩
  rw [hq]
  unfold bothS at hq
  have k0 := BX.out.c0
  have k1 := BX.out.c1
  obtain ⟨z, hz⟩ : ∃ z, z = strB m.tx := ⟨_, rfl⟩
  rw [← hz] at k1
  have HZ := Lib.hid hz
  obtain ⟨gb, hgb⟩ : ∃ gb, gb = w.heap.size := ⟨_, rfl⟩
  rw [← hgb] at k0 k1 BX
  have HGB := Lib.hid hgb
  clear hz hgb
  obtain ⟨qa, hqa⟩ : ∃ qa, othersS cs (i : Int) (ofP 4 m.tx) = qa := ⟨_, rfl⟩
  obtain ⟨qb, hqb⟩ : ∃ qb, othersS cs (i : Int) (ofP 3 m.tx) = qb := ⟨_, rfl⟩
  rw [hqa, hqb] at hq
  have Hqa := Lib.hid hqa
  have Hqb := Lib.hid hqb
  have B1 := Lib.hid (Below.refl w1.heap.size w1)
  have Bw1 := Lib.hid (Below.refl w1.heap.size w1)
  clear hqa hqb
  by_cases hk : m.kind = 3
  · have hk1 : (m.kind == 3) = true := by simpa using hk
    have hk2 : (m.kind == 4) = false := by rw [hk]; rfl
    have HQQ := Lib.hid (show qa = q by rw [← hq]; simp [hk])
    clear hk hq
    go_enter Try.func29, Try.ntmps29
    go_upto_region 1 with fail
    rw [← HW1.out, ← HGB.out]
    go_wp2_with fail
    refine (of_any 4 z w1).mono ?_
    rintro e w2 ⟨g, rfl, h1, h2, hb⟩
    rw [HZ.out] at h2
    have HFw2 := Lib.hid (And.intro h1 h2)
    have Bw2 := Lib.hid (below_below B1.out B1.out.size hb)
    have k0 := (BX.out.below Bw2.out).c0
    have k1 := (BX.out.below Bw2.out).c1
    rw [← HZ.out] at k1
    clear h1 h2 hb
    go_wp2_with fail
    refine (othersOf_any p vA vc cs b (i : Int) g 4 m.tx w2 (HV.out.below Bw2.out) HFw2.out).mono ?_
    rw [Hqa.out]
    rintro e w3 ⟨rfl, hb⟩
    have Bw3 := Lib.hid (below_below Bw2.out Bw2.out.size hb)
    have k0 := (BX.out.below Bw3.out).c0
    have k1 := (BX.out.below Bw3.out).c1
    rw [← HZ.out] at k1
    clear hb
    cases qa
    all_goals
      go_wp2_with fail
      go_ret
      exact ⟨ret_bool HQQ.out, below_below HB1.out HB1.out.size Bw3.out⟩
  · have hk1 : (m.kind == 3) = false := by simpa using hk
    by_cases hk4 : m.kind = 4
    · have hk2 : (m.kind == 4) = true := by simpa using hk4
      have HQQ := Lib.hid (show qb = q by rw [← hq]; simp [hk4])
      clear hk hk4 hq
      go_enter Try.func29, Try.ntmps29
      go_upto_region 1 with fail
      rw [← HW1.out, ← HGB.out]
      go_wp2_with fail
      refine (of_any 3 z w1).mono ?_
      rintro e w2 ⟨g, rfl, h1, h2, hb⟩
      rw [HZ.out] at h2
      have HFw2 := Lib.hid (And.intro h1 h2)
      have Bw2 := Lib.hid (below_below B1.out B1.out.size hb)
      have k0 := (BX.out.below Bw2.out).c0
      have k1 := (BX.out.below Bw2.out).c1
      rw [← HZ.out] at k1
      clear h1 h2 hb
      go_wp2_with fail
      refine (othersOf_any p vA vc cs b (i : Int) g 3 m.tx w2 (HV.out.below Bw2.out) HFw2.out).mono ?_
      rw [Hqb.out]
      rintro e w3 ⟨rfl, hb⟩
      have Bw3 := Lib.hid (below_below Bw2.out Bw2.out.size hb)
      have k0 := (BX.out.below Bw3.out).c0
      have k1 := (BX.out.below Bw3.out).c1
      rw [← HZ.out] at k1
      clear hb
      cases qb
      all_goals
        go_wp2_with fail
        go_ret
        exact ⟨ret_bool HQQ.out, below_below HB1.out HB1.out.size Bw3.out⟩
    · have hk2 : (m.kind == 4) = false := by simpa using hk4
      have HQQ := Lib.hid (show false = q by rw [← hq]; simp [hk, hk4])
      clear hk hk4 hq
      go_enter Try.func29, Try.ntmps29
      go_upto_region 1 with fail
      rw [← HW1.out, ← HGB.out]
      go_wp2_with fail
      go_ret
      exact ⟨ret_bool HQQ.out, below_below HB1.out HB1.out.size Bw1.out⟩

end Go.Proofs.Ytjakhemolecbnaa
end

/-
  An operation whose guard is off is not wanted; a function value that is made.
-/
section
set_option linter.unusedVariables false
set_option linter.unusedSimpArgs false
namespace Go.Proofs.Ytjakhemolecbnaa
open Go.RowKit
variable {P : Program} {ops : Array Oper} {Q : Exit → Act → World → Prop}
theorem wanted_off (o : Oper) (a' : Act) (j t : Nat) (b : Bool) (h : o.guard = some (j, b)) (ht : (ops[j]?).bind (·.dst) = some t) (hv : a'.tmps.getD t undef = .bool (!b)) : Region.wanted o (yielded ops a'.tmps) = false := by
  cases ho : ops[j]? with
  | none => rw [ho] at ht; cases ht
  | some oj =>
    rw [ho] at ht
    have ht' : oj.dst = some t := ht
    rw [Array.getD_eq_getD_getElem?] at hv
    cases hx : a'.tmps[t]? with
    | none => rw [hx] at hv; cases b <;> simp [undef] at hv
    | some u =>
      rw [hx] at hv
      have hv' : u = .bool (!b) := hv
      cases b <;> simp [Region.wanted, h, yielded, ho, ht', hx, hv']
/-- A function value that is made. -/
theorem op_makeFunc {a' : Act} {w' : World} {K : Act → World → Prop} {o : Oper} (fn : Fn) (xs ys : Array Operand) (hw : Region.wanted o (yielded ops a'.tmps) = true) (hop : o.op = .makeFunc fn xs ys)
    (hK : K (a'.put o.dst (.func fn (xs.map a'.eval) (ys.map a'.eval))) w') :
    if Region.wanted o (yielded ops a'.tmps) = true then o.wp P a' w' K Q else K (a'.put o.dst undef) w' := by
  rw [if_pos hw]
  unfold Oper.wp
  have hrun : (execOp a'.eval o).run P w' = .ok (.value (.func fn (xs.map a'.eval) (ys.map a'.eval))) w' := by
    unfold execOp
    rw [hop]
    rfl
  rw [hrun]
  exact hK
/-- A store and the like: no value. -/
theorem op_skip {a' : Act} {w' w'' : World} {K : Act → World → Prop} {o : Oper} (hw : Region.wanted o (yielded ops a'.tmps) = true) (hdst : o.dst = none) (hrun : (execOp a'.eval o).run P w' = .ok .skip w'') (hK : K (a'.put o.dst undef) w'') :
    if Region.wanted o (yielded ops a'.tmps) = true then o.wp P a' w' K Q else K (a'.put o.dst undef) w' := by
  rw [if_pos hw]
  unfold Oper.wp
  rw [hrun]
  exact hK
end Go.Proofs.Ytjakhemolecbnaa
end
