/-
  The chain of links: what it is, and the walk of Next.
-/
import Derived.Test.YthlbmjjodjepjaaSha
import Derived.Test.YthlbmjjodjepjaaWal
import Derived.Lib.AppendStr
import Derived.Great.Walk
import Derived.Deep.CutBlock
set_option linter.unusedVariables false
set_option linter.unusedSimpArgs false
namespace Go.Proofs.Ythlbmjjodjepjaa
open Go.RowKit

def hd0 : List UInt8 := List.replicate 32 0
/-- The head behind a record. -/
def nextOf (h s : List UInt8) : List UInt8 := shaOf (h ++ s)
theorem nextOf_length (h s : List UInt8) : (nextOf h s).length = 32 := shaOf_length _
def headOf (l : List (List UInt8)) : List UInt8 := l.foldl nextOf hd0
theorem head_length : ∀ (l : List (List UInt8)) (h : List UInt8), h.length = 32 → (l.foldl nextOf h).length = 32
  | [], _, hh => hh
  | s :: l, h, _ => head_length l (nextOf h s) (nextOf_length h s)
theorem headOf_length (l : List (List UInt8)) : (headOf l).length = 32 := head_length l hd0 (by simp [hd0])
theorem headOf_snoc (l : List (List UInt8)) (s : List UInt8) : headOf (l ++ [s]) = nextOf (headOf l) s := by simp [headOf, List.foldl_append]
/-- The chain of texts. -/
def mkOf (l : List (List UInt8)) : List (List UInt8 × List UInt8) := (List.range l.length).map fun i => (l.getD i [], headOf (l.take (i + 1)))
theorem mkOf_length (l : List (List UInt8)) : (mkOf l).length = l.length := by simp [mkOf]
theorem mkOf_get (l : List (List UInt8)) (i : Nat) (h : i < (mkOf l).length) (h' : i < l.length) : (mkOf l)[i] = (l[i], headOf (l.take (i + 1))) := by
  simp [mkOf, List.getD_eq_getElem?_getD, List.getElem?_eq_getElem h']
theorem mkOf_snoc (l : List (List UInt8)) (s : List UInt8) : mkOf (l ++ [s]) = mkOf l ++ [(s, nextOf (headOf l) s)] := by
  unfold mkOf
  rw [List.length_append, List.length_singleton, List.range_succ, List.map_append]
  congr 1
  · apply List.map_congr_left
    intro j hj
    have := List.mem_range.1 hj
    simp only [List.getD_eq_getElem?_getD]
    rw [List.getElem?_append_left (by omega), List.take_append_of_le_length (by omega)]
  · rw [List.map_singleton, List.take_of_length_le (by simp), headOf_snoc]
    simp [List.getD_eq_getElem?_getD]
theorem mkOf_heads (l : List (List UInt8)) : ∀ x ∈ mkOf l, x.2.length = 32 := by
  intro x hx
  simp only [mkOf, List.mem_map] at hx
  obtain ⟨j, _, rfl⟩ := hx
  exact headOf_length _

/-- A link's cells. -/
def lk (x : List UInt8 × List UInt8) : List Value := .string (strB x.1) :: bv x.2
def lv (L : List (List UInt8 × List UInt8)) : List Value := L.flatMap lk
theorem lv_snoc (L : List (List UInt8 × List UInt8)) (x : List UInt8 × List UInt8) : lv (L ++ [x]) = lv L ++ lk x := by simp [lv]
theorem lk_length (x : List UInt8 × List UInt8) (h : x.2.length = 32) : (lk x).length = 33 := by simp [lk, bv_length, h]
theorem lv_length : ∀ (L : List (List UInt8 × List UInt8)), (∀ x ∈ L, x.2.length = 32) → (lv L).length = L.length * 33
  | [], _ => by simp [lv]
  | x :: L, h => by
    have h1 := lv_length L (fun y hy => h y (by simp [hy]))
    have h2 := lk_length x (h x (by simp))
    rw [lv, List.flatMap_cons, List.length_append, h2, List.length_cons]
    rw [lv] at h1
    omega
theorem lv_get : ∀ (L : List (List UInt8 × List UInt8)), (∀ x ∈ L, x.2.length = 32) → ∀ (i : Nat) (hi : i < L.length) (j : Nat), j < 33 → (lv L)[i * 33 + j]? = (lk L[i])[j]?
  | [], _, i, hi, _, _ => absurd hi (by simp)
  | x :: L, h, 0, _, j, hj => by
    have h2 := lk_length x (h x (by simp))
    rw [lv, List.flatMap_cons, List.getElem?_append_left (by omega)]
    simp
  | x :: L, h, i + 1, hi, j, hj => by
    have h2 := lk_length x (h x (by simp))
    have h1 := lv_get L (fun y hy => h y (by simp [hy])) i (by simpa using hi) j hj
    rw [lv, List.flatMap_cons, List.getElem?_append_right (by omega), h2, show (i + 1) * 33 + j - 33 = i * 33 + j by omega]
    exact h1
theorem lk_one (x : List UInt8 × List UInt8) : ∀ u ∈ lk x, u.oneCell' = true := by
  intro u hu
  rcases List.mem_cons.1 hu with rfl | h
  · rfl
  · exact bv_one _ u h
theorem lv_one (L : List (List UInt8 × List UInt8)) : ∀ u ∈ lv L, u.oneCell' = true := by
  intro u hu
  obtain ⟨x, _, h⟩ := List.mem_flatMap.1 hu
  exact lk_one x u h

section
variable {P : Program}
theorem strCells_bv (s : ByteArray) : Lib.strCells s = bv s.data.toList := rfl
/-- 'append(v, s...)': v full, its block of whatever kind. -/
theorem run_append_full_string (w : World) (t u ty e : TypeId) (i : TypeInfo) (ht : P.underlying t = some (.slice e)) (hu : P.underlying u = some .string) (hi : P.info? e = some i) (hz : i.zero = some (.int .u8 0))
    (hsize : i.size = 1) (hby : i.bytes = 1) (g n : Nat) (l : List UInt8) (hl : l.length = n) (hr : RB w (some ⟨g, 0, none⟩) l) (s : ByteArray) (hn : n ≤ 1000000) (hs : s.size ≤ 1000000) :
    ∃ A c w', (Builtin.append_ #[t, u] ty #[.slice (some ⟨g, 0, none⟩) n n, .string s]).run P w = .ok (.slice A (n + s.size) c) w' ∧ RB w' A (l ++ s.data.toList) ∧ Below w.heap.size w w' := by
  by_cases h0 : s.size = 0
  · have hd : s.data.toList = [] := List.eq_nil_of_length_eq_zero (by rw [data_length]; exact h0)
    refine ⟨some ⟨g, 0, none⟩, n, w, ?_, by rw [hd, List.append_nil]; exact hr, Below.refl _ _⟩
    have hf := Lib.run_firstCells_string (P := P) w 1 s
    rw [strCells_bv, hd] at hf
    simp only [h0] at hf
    simp [Builtin.append_, run_underlying ht, run_underlying hu, sizeOf, typeInfo, hi, hsize, Builtin.lenOf, h0, hf, storeCells, bv]
  · have holds : ∀ j v, (bv l)[j]? = some v → w.cell? ((⟨g, 0, none⟩ : Addr).add j) = some v := by
      intro j v hv
      have hlen := bv_length l
      have hj := (List.getElem?_eq_some_iff.1 hv).1
      obtain ⟨ad, e, hc⟩ := hr.cells (by omega)
      cases e
      exact hc j v hv
    have hgrow := Lib.run_append_grow_string (P := P) w t u ty e i (.int .u8 0) ht hu hi hz ⟨g, 0, none⟩ n n (bv l) (by rw [bv_length, hl, hsize, Nat.mul_one]) holds s (by omega) (by omega) (growslice_fits (by omega) (by rw [hby]; omega))
    refine ⟨_, _, _, hgrow, ?_, (Below.refl _ _).drew.alloc (Nat.le_refl _) _⟩
    rw [strCells_bv]
    have h1 := RC_newL w.drew ((bv l ++ bv s.data.toList) ++ (Builtin.zeroCells (Value.int .u8 0).cells (grownCap w (n + s.size) n e - (n + s.size))).toList) e
    have e1 : ((bv l ++ bv s.data.toList) ++ (Builtin.zeroCells (Value.int .u8 0).cells (grownCap w (n + s.size) n e - (n + s.size))).toList).toArray = (bv l).toArray ++ (bv s.data.toList).toArray ++ Builtin.zeroCells (Value.int .u8 0).cells (grownCap w (n + s.size) n e - (n + s.size)) := by
      apply Array.ext'
      simp
    rw [e1] at h1
    have h2 : RC (w.drew.alloc (.cells ((bv l).toArray ++ (bv s.data.toList).toArray ++ Builtin.zeroCells (Value.int .u8 0).cells (grownCap w (n + s.size) n e - (n + s.size))) e)) (some ⟨w.drew.heap.size, 0, none⟩) (bv (l ++ s.data.toList)) := by
      intro hp
      obtain ⟨ad, ea, hc⟩ := h1 (by rw [List.length_append]; rw [bv_append] at hp; omega)
      refine ⟨ad, ea, fun j v hj => hc j v ?_⟩
      rw [bv_append] at hj
      rw [List.getElem?_append_left (List.getElem?_eq_some_iff.1 hj).1]
      exact hj
    exact h2.bytes
theorem wpList_append_full_string {ops : Array Oper} {rest : List Oper} {o : Oper} {a : Act} {w : World} {Q : Exit → Act → World → Prop} (hgd : o.guard = none) (sl x : Operand) (t u : TypeId)
    (ho : o.op = .call { callee := .builtin .append, args := #[sl, x], argTypes := #[t, u] })
    (e : TypeId) (i : TypeInfo) (ht : P.underlying t = some (.slice e)) (hu : P.underlying u = some .string) (hi : P.info? e = some i) (hz : i.zero = some (.int .u8 0)) (hsize : i.size = 1) (hby : i.bytes = 1)
    (g n : Nat) (l : List UInt8) (hl : l.length = n) (hr : RB w (some ⟨g, 0, none⟩) l) (s : ByteArray) (hn : n ≤ 1000000) (hs : s.size ≤ 1000000)
    (hsl : a.eval sl = .slice (some ⟨g, 0, none⟩) n n) (hx : a.eval x = .string s)
    (h : ∀ A c w', RB w' A (l ++ s.data.toList) → Below w.heap.size w w' → wpList P ops Q rest (a.put o.dst (.slice A (n + s.size) c)) w') : wpList P ops Q (o :: rest) a w := by
  refine wpList_plain hgd fun K hK => ?_
  obtain ⟨A, c, w', hrun, h1, h2⟩ := run_append_full_string (P := P) w t u o.type e i ht hu hi hz hsize hby g n l hl hr s hn hs
  unfold Oper.wp execOp
  simp only [ho, resolve, invoke, builtin, Sem.run_bind, Sem.run_pure, Result.andThen_ok, List.map_toArray, List.map_cons, List.map_nil, hsl, hx, hrun]
  exact hK _ _ (h A c w' h1 h2)
end

set_option maxRecDepth 100000 in
set_option maxHeartbeats 4000000 in
theorem next_any (h : List UInt8) (s : ByteArray) (w : World) (hh : h.length = 32) (hs : s.size ≤ 1000000) :
    Calls Try.prog 22 #[.agg (bv h).toArray, .string s] w fun e w' => e = .returned (.agg (bv (nextOf h s.data.toList)).toArray) ∧ Below w.heap.size w w' := by
  obtain ⟨i8, hi8, hz8, hs8, hb8⟩ := info8i
  obtain ⟨hc, ehc⟩ : ∃ hc, hc = (bv h).toArray := ⟨_, rfl⟩
  obtain ⟨z32, hz32⟩ : ∃ z32, z32 = (bv (List.replicate 32 0)).toArray := ⟨_, rfl⟩
  rw [← ehc]
  have HI8 := Lib.hid hi8
  have HZ8 := Lib.hid hz8
  have HS8 := Lib.hid hs8
  have HB8 := Lib.hid hb8
  have HHL := Lib.hid hh
  have HSS := Lib.hid hs
  clear hi8 hz8 hs8 hb8 hh hs
  go_enter Try.func22, Try.ntmps22
  go_upto_region 0 with fail
  refine wp_region_lit ?_
  refine Great.wpList_boxTo rfl 28 (.tmp 0) rfl (some 2) rfl w.heap.size rfl hc rfl ?_
  obtain ⟨w1, hw1⟩ : ∃ w1, w1 = w.alloc (.cells hc 28) := ⟨_, rfl⟩
  rw [← hw1]
  have hs1 : w1.heap.size = w.heap.size + 1 := by rw [hw1]; simp
  have hA0 : Arr w1 w.heap.size 28 (bv h) := by rw [hw1, ehc]; exact Arr.new _ _ _
  have hB1 : Below w.heap.size w w1 := by rw [hw1]; exact (Below.refl _ _).alloc (Nat.le_refl _) _
  refine Great.wpList_allocTo rfl _ rfl (.pointer (some ⟨w.heap.size + 1, 0, none⟩)) (.cells z32 28) ?x1 ?_
  case x1 => rw [hz32, ← hs1]; kernel_rfl
  refine wpList_nil ?_
  rename_i hK
  refine hK _ _ ?_
  clear hK
  obtain ⟨w2, hw2⟩ : ∃ w2, w2 = w1.alloc (.cells z32 28) := ⟨_, rfl⟩
  rw [← hw2]
  have hA1 : Arr w2 (w.heap.size + 1) 28 (bv (List.replicate 32 0)) := by rw [hw2, hz32]; exact Arr.new_at _ _ _ _ hs1.symm
  have hA0' : Arr w2 w.heap.size 28 (bv h) := by rw [hw2]; exact hA0.alloc _
  have hB2 : Below w.heap.size w w2 := by rw [hw2]; exact hB1.alloc hB1.size _
  have hR2 : RB w2 (some ⟨w.heap.size, 0, none⟩) h := by
    refine RC.bytes (fun hp => ⟨_, rfl, fun j v hj => ?_⟩)
    rw [add_off, Nat.zero_add]
    exact hA0'.cell hj
  have HA1 := Lib.hid hA1
  have HB2 := Lib.hid hB2
  have HR2 := Lib.hid hR2
  clear hw2 hw1 hs1 hA0 hB1 hA1 hA0' hB2 hR2 hz32 ehc
  go_wp2_with (at_builtin; refine wpList_append_full_string rfl (.tmp 5) (.tmp 6) 37 9 rfl 5 i8 Try.underlying37 Try.underlying9 HI8.out HZ8.out HS8.out HB8.out w.heap.size 32 h HHL.out HR2.out s (by omega) HSS.out rfl rfl ?_)
  intro A c w3 hr3 hb3
  have HR3 := Lib.hid hr3
  have HB3 := Lib.hid (below_below HB2.out HB2.out.size hb3)
  have HA3 := Lib.hid (HA1.out.below hb3 HA1.out.lt)
  clear hr3 hb3
  go_wp2_with fail
  refine (sha_any A (32 + s.size) c (h ++ s.data.toList) w3 (by rw [List.length_append, HHL.out, data_length]) (by have := HSS.out; omega) HR3.out).mono ?_
  obtain ⟨cs, ecs⟩ : ∃ cs, cs = (bv (shaOf (h ++ s.data.toList))).toArray := ⟨_, rfl⟩
  have hz : cs.size = 32 := by rw [ecs, List.size_toArray, bv_length, shaOf_length]
  have hcz : (Try.prog.info? 28).map (·.size) = some cs.size := by rw [hz]; exact info72
  have ECS := Lib.hid ecs
  have HZZ := Lib.hid hz
  have HCZ := Lib.hid hcz
  rw [← ecs]
  clear ecs hz hcz
  rintro e w4 ⟨rfl, hb4⟩
  have HA4 := Lib.hid (HA3.out.below hb4 HA3.out.lt)
  have HB4 := Lib.hid (below_below HB3.out HB3.out.size hb4)
  clear hb4
  go_wp2_with (refine wpList_store_row rfl 28 (.tmp 4) (.tmp 8) rfl (w.heap.size + 1) cs rfl rfl 28 _ HA4.out HCZ.out (by rw [HZZ.out]; rfl) (by rw [ECS.out]; exact all_oneCell_toArray (bv_one _)) ?_)
  refine bodyPost_ret (v := .agg cs) ?_ rfl ?_
  case refine_2 => exact ⟨by rw [ECS.out]; rfl, below_setRow HB4.out _ _ (by omega)⟩
  exact results_cell_row rfl _ _ (w.heap.size + 1) 28 cs (0, 0) _ rfl (setRow_heap _ _ _ _ _ _ HA4.out) Try.underlying28 rfl HCZ.out

end Go.Proofs.Ythlbmjjodjepjaa
