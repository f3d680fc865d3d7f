/-
  The texts Chain, ChainEq, ChainMake, ChainFew of this proof in one (what is used of them): what each proves is said at its head. No conditions beyond those that each theorem says.
-/
import Derived.Lib.AppendStr
import Derived.Great.Walk
import Derived.Deep.CutBlock
import Derived.DeepKeys
import Derived.Great.BuildSlice
import Derived.Test.YtjakhemolecbnaaNB2
import Derived.Test.YtjakhemolecbnaaNA2

/-
  The chain of links: what it is, and the walk of Next.
-/
section
set_option linter.unusedVariables false
set_option linter.unusedSimpArgs false
namespace Go.Proofs.Ytjakhemolecbnaa
open Go.RowKit

def hd0 : List UInt8 := List.replicate 32 0
/-- The head behind a record. -/
def nextOf (h s : List UInt8) : List UInt8 := shaOf (h ++ s)
theorem nextOf_length (h s : List UInt8) : (nextOf h s).length = 32 := shaOf_length _
def headOf (l : List (List UInt8)) : List UInt8 := l.foldl nextOf hd0
theorem head_length : ∀ (l : List (List UInt8)) (h : List UInt8), h.length = 32 → (l.foldl nextOf h).length = 32
  | [], _, hh => hh
  | s :: l, h, _ => head_length l (nextOf h s) (nextOf_length h s)
theorem headOf_length (l : List (List UInt8)) : (headOf l).length = 32 := head_length l hd0 (by simp [hd0])
theorem headOf_snoc (l : List (List UInt8)) (s : List UInt8) : headOf (l ++ [s]) = nextOf (headOf l) s := by simp [headOf, List.foldl_append]
/-- The chain of texts. -/
def mkOf (l : List (List UInt8)) : List (List UInt8 × List UInt8) := (List.range l.length).map fun i => (l.getD i [], headOf (l.take (i + 1)))
theorem mkOf_length (l : List (List UInt8)) : (mkOf l).length = l.length := by simp [mkOf]
theorem mkOf_get (l : List (List UInt8)) (i : Nat) (h : i < (mkOf l).length) (h' : i < l.length) : (mkOf l)[i] = (l[i], headOf (l.take (i + 1))) := by
  simp [mkOf, List.getD_eq_getElem?_getD, List.getElem?_eq_getElem h']
theorem mkOf_snoc (l : List (List UInt8)) (s : List UInt8) : mkOf (l ++ [s]) = mkOf l ++ [(s, nextOf (headOf l) s)] := by
  unfold mkOf
  rw [List.length_append, List.length_singleton, List.range_succ, List.map_append]
  congr 1
  · apply List.map_congr_left
    intro j hj
    have := List.mem_range.1 hj
    simp only [List.getD_eq_getElem?_getD]
    rw [List.getElem?_append_left (by omega), List.take_append_of_le_length (by omega)]
  · rw [List.map_singleton, List.take_of_length_le (by simp), headOf_snoc]
    simp [List.getD_eq_getElem?_getD]
theorem mkOf_heads (l : List (List UInt8)) : ∀ x ∈ mkOf l, x.2.length = 32 := by
  intro x hx
  simp only [mkOf, List.mem_map] at hx
  obtain ⟨j, _, rfl⟩ := hx
  exact headOf_length _

/-- A link's cells. -/
def lk (x : List UInt8 × List UInt8) : List Value := .string (strB x.1) :: bv x.2
def lv (L : List (List UInt8 × List UInt8)) : List Value := L.flatMap lk
theorem lv_snoc (L : List (List UInt8 × List UInt8)) (x : List UInt8 × List UInt8) : lv (L ++ [x]) = lv L ++ lk x := by simp [lv]
theorem lk_length (x : List UInt8 × List UInt8) (h : x.2.length = 32) : (lk x).length = 33 := by simp [lk, bv_length, h]
theorem lv_length : ∀ (L : List (List UInt8 × List UInt8)), (∀ x ∈ L, x.2.length = 32) → (lv L).length = L.length * 33
  | [], _ => by simp [lv]
  | x :: L, h => by
    have h1 := lv_length L (fun y hy => h y (by simp [hy]))
    have h2 := lk_length x (h x (by simp))
    rw [lv, List.flatMap_cons, List.length_append, h2, List.length_cons]
    rw [lv] at h1
    omega
theorem lv_get : ∀ (L : List (List UInt8 × List UInt8)), (∀ x ∈ L, x.2.length = 32) → ∀ (i : Nat) (hi : i < L.length) (j : Nat), j < 33 → (lv L)[i * 33 + j]? = (lk L[i])[j]?
  | [], _, i, hi, _, _ => absurd hi (by simp)
  | x :: L, h, 0, _, j, hj => by
    have h2 := lk_length x (h x (by simp))
    rw [lv, List.flatMap_cons, List.getElem?_append_left (by omega)]
    simp
  | x :: L, h, i + 1, hi, j, hj => by
    have h2 := lk_length x (h x (by simp))
    have h1 := lv_get L (fun y hy => h y (by simp [hy])) i (by simpa using hi) j hj
    rw [lv, List.flatMap_cons, List.getElem?_append_right (by omega), h2, show (i + 1) * 33 + j - 33 = i * 33 + j by omega]
    exact h1
theorem lk_one (x : List UInt8 × List UInt8) : ∀ u ∈ lk x, u.oneCell' = true := by
  intro u hu
  rcases List.mem_cons.1 hu with rfl | h
  · rfl
  · exact bv_one _ u h
section
variable {P : Program}
theorem strCells_bv (s : ByteArray) : Lib.strCells s = bv s.data.toList := rfl
/-- 'append(v, s...)': v full, its block of whatever kind. -/
theorem run_append_full_string (w : World) (t u ty e : TypeId) (i : TypeInfo) (ht : P.underlying t = some (.slice e)) (hu : P.underlying u = some .string) (hi : P.info? e = some i) (hz : i.zero = some (.int .u8 0))
    (hsize : i.size = 1) (hby : i.bytes = 1) (g n : Nat) (l : List UInt8) (hl : l.length = n) (hr : RB w (some ⟨g, 0, none⟩) l) (s : ByteArray) (hn : n ≤ 1000000) (hs : s.size ≤ 1000000) :
    ∃ A c w', (Builtin.append_ #[t, u] ty #[.slice (some ⟨g, 0, none⟩) n n, .string s]).run P w = .ok (.slice A (n + s.size) c) w' ∧ RB w' A (l ++ s.data.toList) ∧ Below w.heap.size w w' := by
  by_cases h0 : s.size = 0
  · have hd : s.data.toList = [] := List.eq_nil_of_length_eq_zero (by rw [data_length]; exact h0)
    refine ⟨some ⟨g, 0, none⟩, n, w, ?_, by rw [hd, List.append_nil]; exact hr, Below.refl _ _⟩
    have hf := Lib.run_firstCells_string (P := P) w 1 s
    rw [strCells_bv, hd] at hf
    simp only [h0] at hf
    simp [Builtin.append_, run_underlying ht, run_underlying hu, sizeOf, typeInfo, hi, hsize, Builtin.lenOf, h0, hf, storeCells, bv]
  · have holds : ∀ j v, (bv l)[j]? = some v → w.cell? ((⟨g, 0, none⟩ : Addr).add j) = some v := by
      intro j v hv
      have hlen := bv_length l
      have hj := (List.getElem?_eq_some_iff.1 hv).1
      obtain ⟨ad, e, hc⟩ := hr.cells (by omega)
      cases e
      exact hc j v hv
    have hgrow := Lib.run_append_grow_string (P := P) w t u ty e i (.int .u8 0) ht hu hi hz ⟨g, 0, none⟩ n n (bv l) (by rw [bv_length, hl, hsize, Nat.mul_one]) holds s (by omega) (by omega) (growslice_fits (by omega) (by rw [hby]; omega))
    refine ⟨_, _, _, hgrow, ?_, (Below.refl _ _).drew.alloc (Nat.le_refl _) _⟩
    rw [strCells_bv]
    have h1 := RC_newL w.drew ((bv l ++ bv s.data.toList) ++ (Builtin.zeroCells (Value.int .u8 0).cells (grownCap w (n + s.size) n e - (n + s.size))).toList) e
    have e1 : ((bv l ++ bv s.data.toList) ++ (Builtin.zeroCells (Value.int .u8 0).cells (grownCap w (n + s.size) n e - (n + s.size))).toList).toArray = (bv l).toArray ++ (bv s.data.toList).toArray ++ Builtin.zeroCells (Value.int .u8 0).cells (grownCap w (n + s.size) n e - (n + s.size)) := by
      apply Array.ext'
      simp
    rw [e1] at h1
    have h2 : RC (w.drew.alloc (.cells ((bv l).toArray ++ (bv s.data.toList).toArray ++ Builtin.zeroCells (Value.int .u8 0).cells (grownCap w (n + s.size) n e - (n + s.size))) e)) (some ⟨w.drew.heap.size, 0, none⟩) (bv (l ++ s.data.toList)) := by
      intro hp
      obtain ⟨ad, ea, hc⟩ := h1 (by rw [List.length_append]; rw [bv_append] at hp; omega)
      refine ⟨ad, ea, fun j v hj => hc j v ?_⟩
      rw [bv_append] at hj
      rw [List.getElem?_append_left (List.getElem?_eq_some_iff.1 hj).1]
      exact hj
    exact h2.bytes
theorem wpList_append_full_string {ops : Array Oper} {rest : List Oper} {o : Oper} {a : Act} {w : World} {Q : Exit → Act → World → Prop} (hgd : o.guard = none) (sl x : Operand) (t u : TypeId)
    (ho : o.op = .call { callee := .builtin .append, args := #[sl, x], argTypes := #[t, u] })
    (e : TypeId) (i : TypeInfo) (ht : P.underlying t = some (.slice e)) (hu : P.underlying u = some .string) (hi : P.info? e = some i) (hz : i.zero = some (.int .u8 0)) (hsize : i.size = 1) (hby : i.bytes = 1)
    (g n : Nat) (l : List UInt8) (hl : l.length = n) (hr : RB w (some ⟨g, 0, none⟩) l) (s : ByteArray) (hn : n ≤ 1000000) (hs : s.size ≤ 1000000)
    (hsl : a.eval sl = .slice (some ⟨g, 0, none⟩) n n) (hx : a.eval x = .string s)
    (h : ∀ A c w', RB w' A (l ++ s.data.toList) → Below w.heap.size w w' → wpList P ops Q rest (a.put o.dst (.slice A (n + s.size) c)) w') : wpList P ops Q (o :: rest) a w := by
  refine wpList_plain hgd fun K hK => ?_
  obtain ⟨A, c, w', hrun, h1, h2⟩ := run_append_full_string (P := P) w t u o.type e i ht hu hi hz hsize hby g n l hl hr s hn hs
  unfold Oper.wp execOp
  simp only [ho, resolve, invoke, builtin, Sem.run_bind, Sem.run_pure, Result.andThen_ok, List.map_toArray, List.map_cons, List.map_nil, hsl, hx, hrun]
  exact hK _ _ (h A c w' h1 h2)
end

set_option maxRecDepth 100000 in
set_option maxHeartbeats 4000000 in
theorem next_any (h : List UInt8) (s : ByteArray) (w : World) (hh : h.length = 32) (hs : s.size ≤ 1000000) :
    Calls Try.prog 85 #[.agg (bv h).toArray, .string s] w fun e w' => e = .returned (.agg (bv (nextOf h s.data.toList)).toArray) ∧ Below w.heap.size w w' := by
  obtain ⟨i8, hi8, hz8, hs8, hb8⟩ := info8i
  obtain ⟨hc, ehc⟩ : ∃ hc, hc = (bv h).toArray := ⟨_, rfl⟩
  obtain ⟨z32, hz32⟩ : ∃ z32, z32 = (bv (List.replicate 32 0)).toArray := ⟨_, rfl⟩
  rw [← ehc]
  have HI8 := Lib.hid hi8
  have HZ8 := Lib.hid hz8
  have HS8 := Lib.hid hs8
  have HB8 := Lib.hid hb8
  have HHL := Lib.hid hh
  have HSS := Lib.hid hs
  clear hi8 hz8 hs8 hb8 hh hs
  go_enter Try.func85, Try.ntmps85
  go_upto_region 0 with fail
  refine wp_region_lit ?_
  refine Great.wpList_boxTo rfl 86 (.tmp 0) rfl (some 2) rfl w.heap.size rfl hc rfl ?_
  obtain ⟨w1, hw1⟩ : ∃ w1, w1 = w.alloc (.cells hc 86) := ⟨_, rfl⟩
  rw [← hw1]
  have hs1 : w1.heap.size = w.heap.size + 1 := by rw [hw1]; simp
  have hA0 : Arr w1 w.heap.size 86 (bv h) := by rw [hw1, ehc]; exact Arr.new _ _ _
  have hB1 : Below w.heap.size w w1 := by rw [hw1]; exact (Below.refl _ _).alloc (Nat.le_refl _) _
  refine Great.wpList_allocTo rfl _ rfl (.pointer (some ⟨w.heap.size + 1, 0, none⟩)) (.cells z32 86) ?x1 ?_
  case x1 => rw [hz32, ← hs1]; kernel_rfl
  refine wpList_nil ?_
  rename_i hK
  refine hK _ _ ?_
  clear hK
  obtain ⟨w2, hw2⟩ : ∃ w2, w2 = w1.alloc (.cells z32 86) := ⟨_, rfl⟩
  rw [← hw2]
  have hA1 : Arr w2 (w.heap.size + 1) 86 (bv (List.replicate 32 0)) := by rw [hw2, hz32]; exact Arr.new_at _ _ _ _ hs1.symm
  have hA0' : Arr w2 w.heap.size 86 (bv h) := by rw [hw2]; exact hA0.alloc _
  have hB2 : Below w.heap.size w w2 := by rw [hw2]; exact hB1.alloc hB1.size _
  have hR2 : RB w2 (some ⟨w.heap.size, 0, none⟩) h := by
    refine RC.bytes (fun hp => ⟨_, rfl, fun j v hj => ?_⟩)
    rw [add_off, Nat.zero_add]
    exact hA0'.cell hj
  have HA1 := Lib.hid hA1
  have HB2 := Lib.hid hB2
  have HR2 := Lib.hid hR2
  clear hw2 hw1 hs1 hA0 hB1 hA1 hA0' hB2 hR2 hz32 ehc
  go_wp2_with (at_builtin; refine wpList_append_full_string rfl (.tmp 5) (.tmp 6) 25 9 rfl 5 i8 Try.underlying25 Try.underlying9 HI8.out HZ8.out HS8.out HB8.out w.heap.size 32 h HHL.out HR2.out s (by omega) HSS.out rfl rfl ?_)
  intro A c w3 hr3 hb3
  have HR3 := Lib.hid hr3
  have HB3 := Lib.hid (below_below HB2.out HB2.out.size hb3)
  have HA3 := Lib.hid (HA1.out.below hb3 HA1.out.lt)
  clear hr3 hb3
  go_wp2_with fail
  refine (sha_any A (32 + s.size) c (h ++ s.data.toList) w3 (by rw [List.length_append, HHL.out, data_length]) (by have := HSS.out; omega) HR3.out).mono ?_
  obtain ⟨cs, ecs⟩ : ∃ cs, cs = (bv (shaOf (h ++ s.data.toList))).toArray := ⟨_, rfl⟩
  have hz : cs.size = 32 := by rw [ecs, List.size_toArray, bv_length, shaOf_length]
  have hcz : (Try.prog.info? 86).map (·.size) = some cs.size := by rw [hz]; exact info72
  have ECS := Lib.hid ecs
  have HZZ := Lib.hid hz
  have HCZ := Lib.hid hcz
  rw [← ecs]
  clear ecs hz hcz
  rintro e w4 ⟨rfl, hb4⟩
  have HA4 := Lib.hid (HA3.out.below hb4 HA3.out.lt)
  have HB4 := Lib.hid (below_below HB3.out HB3.out.size hb4)
  clear hb4
  go_wp2_with (refine wpList_store_row rfl 86 (.tmp 4) (.tmp 8) rfl (w.heap.size + 1) cs rfl rfl 86 _ HA4.out HCZ.out (by rw [HZZ.out]; rfl) (by rw [ECS.out]; exact all_oneCell_toArray (bv_one _)) ?_)
  refine bodyPost_ret (v := .agg cs) ?_ rfl ?_
  case refine_2 => exact ⟨by rw [ECS.out]; rfl, below_setRow HB4.out _ _ (by omega)⟩
  exact results_cell_row rfl _ _ (w.heap.size + 1) 86 cs (0, 0) _ rfl (setRow_heap _ _ _ _ _ _ HA4.out) Try.underlying86 rfl HCZ.out

end Go.Proofs.Ytjakhemolecbnaa
end

/-
  Two heads, or two links, held against each other.
-/
section
set_option linter.unusedVariables false
set_option linter.unusedSimpArgs false
namespace Go.Proofs.Ytjakhemolecbnaa
open Go.RowKit

theorem mapM_some {α β : Type} (f : α → Option β) (g : α → β) : ∀ l : List α, (∀ a ∈ l, f a = some (g a)) → l.mapM f = some (l.map g)
  | [], _ => by simp
  | a :: l, h => by
    rw [List.mapM_cons, h a (by simp), mapM_some f g l (fun b hb => h b (by simp [hb]))]
    rfl
theorem flatten_singles {α β : Type} (f : α → β) : ∀ l : List α, (l.map fun a => [f a]).flatten = l.map f
  | [] => rfl
  | a :: l => by rw [List.map_cons, List.flatten_cons, flatten_singles f l]; rfl
def lit8 (b : UInt8) : Lit := .int .u8 (un8 b)
theorem lit8_wf (b : UInt8) : (lit8 b).wf = true := by
  have h : b.toNat < 256 := b.toNat_lt
  unfold lit8 un8
  simp [Lit.wf, IntKind.min, IntKind.max, IntKind.signed, IntKind.bits]
  omega
theorem lit8_inj {a b : UInt8} (h : lit8 a = lit8 b) : a = b := by
  unfold lit8 un8 at h
  simp only [Lit.int.injEq, true_and] at h
  exact UInt8.toNat_inj.1 (by omega)
theorem lits_inj : ∀ {x y : List UInt8}, x.map lit8 = y.map lit8 → x = y
  | [], [], _ => rfl
  | [], _ :: _, h => by simp at h
  | _ :: _, [], h => by simp at h
  | a :: x, b :: y, h => by
    simp only [List.map_cons, List.cons.injEq] at h
    rw [lit8_inj h.1, lits_inj h.2]
theorem range_bt (x : List UInt8) (hx : x.length = 32) : (List.range 32).map (bt x) = x := by
  apply List.ext_getElem
  · simp [hx]
  · intro i h1 h2
    simp [bt, List.getD_eq_getElem?_getD, List.getElem?_eq_getElem h2]

theorem cells28 : Try.prog.cellsOf 86 = 32 := by kernel_rfl
theorem cells8 : Try.prog.cellsOf 5 = 1 := by kernel_rfl
theorem keyLit8 (d : Nat) (b : UInt8) : Try.prog.keyLits (d + 1) 5 [.int .u8 (un8 b)] = some [lit8 b] := by
  have h := lit8_wf b
  unfold lit8 at h
  simp only [Program.keyLits, Try.underlying5]
  rw [if_pos ⟨trivial, h⟩]
  rfl
theorem keyLits32 (d : Nat) (x : List UInt8) (hx : x.length = 32) : Try.prog.keyLits (d + 2) 86 (bv x) = some (x.map lit8) := by
  have key : ∀ i ∈ List.range 32, Try.prog.keyLits (d + 1) 5 (((bv x).drop (i * Try.prog.cellsOf 5)).take (Try.prog.cellsOf 5)) = some [lit8 (bt x i)] := by
    intro i hi
    have hi' := List.mem_range.1 hi
    have hl := bv_length x
    rw [cells8, Nat.mul_one]
    have e : ((bv x).drop i).take 1 = [.int .u8 (un8 (bt x i))] := by
      rw [List.drop_eq_getElem_cons (by omega), List.take_succ_cons, List.take_zero]
      simp [bv, B8, bt, List.getD_eq_getElem?_getD, List.getElem?_eq_getElem (show i < x.length by omega)]
    rw [e]
    exact keyLit8 d _
  have h2 := mapM_some _ (fun i => [lit8 (bt x i)]) _ key
  unfold Program.keyLits
  simp only [Try.underlying86]
  rw [if_pos (by rw [bv_length, hx, cells28]), h2]
  simp only [Option.map_some]
  rw [flatten_singles (fun i => lit8 (bt x i))]
  have h3 : (List.range 32).map (fun i => lit8 (bt x i)) = ((List.range 32).map (bt x)).map lit8 := by rw [List.map_map]; rfl
  rw [h3, range_bt x hx]
theorem formed32 (x : List UInt8) (hx : x.length = 32) : (Value.agg (bv x).toArray).formed Try.prog 86 = true := by
  simp only [Value.formed, Try.underlying86, cells28, List.size_toArray, bv_length, hx]
  rfl
/-- Two heads. -/
theorem eq32 (x y : List UInt8) (hx : x.length = 32) (hy : y.length = 32) (w : World) : (Op.equalIn 10000 86 (.agg (bv x).toArray) (.agg (bv y).toArray)).run Try.prog w = .ok (decide (x = y)) w := by
  obtain ⟨r, hr, hiff⟩ := run_equalIn_deep (P := Try.prog) 9998 2 86 (by kernel_rfl) w 2 2 (.agg (bv x).toArray) (.agg (bv y).toArray) _ _ (formed32 x hx) (formed32 y hy) (keyLits32 0 x hx) (keyLits32 0 y hy)
  have e : r = decide (x = y) := by
    by_cases h : x = y
    · rw [decide_eq_true h]; exact hiff.2 (by rw [h])
    · rw [decide_eq_false h]
      cases r with
      | false => rfl
      | true => exact absurd (lits_inj (hiff.1 rfl)) h
  rw [← e]
  exact hr

theorem cellsLk : Try.prog.cellsOf 92 = 33 := by kernel_rfl
theorem cellsS : Try.prog.cellsOf 9 = 1 := by kernel_rfl
theorem keyLitS (d : Nat) (s : List UInt8) (hs : s.length ≤ 1000000) : Try.prog.keyLits (d + 1) 9 [.string (strB s)] = some [.string s] := by
  simp only [Program.keyLits, Try.underlying9]
  rw [if_pos (by rw [strB_size]; simp [maxLen]; omega), strB_toList]
theorem keyLitsLk (d : Nat) (s x : List UInt8) (hs : s.length ≤ 1000000) (hx : x.length = 32) : Try.prog.keyLits (d + 3) 92 (lk (s, x)) = some (.string s :: x.map lit8) := by
  unfold Program.keyLits
  simp only [Try.underlying92]
  rw [if_pos ⟨by rw [lk_length _ hx, cellsLk], by kernel_rfl⟩]
  simp only [List.mapM_cons, List.mapM_nil, cellsS, cells28]
  have e0 : ((lk (s, x)).drop 0).take 1 = [.string (strB s)] := rfl
  have e1 : ((lk (s, x)).drop 1).take 32 = bv x := by
    show (bv x).take 32 = bv x
    rw [List.take_of_length_le (by rw [bv_length, hx]; omega)]
  rw [e0, e1, keyLitS (d + 1) s hs, keyLits32 d x hx]
  simp
theorem formedLk (s x : List UInt8) (hx : x.length = 32) : (Value.agg (lk (s, x)).toArray).formed Try.prog 92 = true := by
  simp only [Value.formed, Try.underlying92, cellsLk, List.size_toArray, lk_length (s, x) hx]
  rfl
/-- Two links. -/
theorem eqLk (a b : List UInt8 × List UInt8) (ha : a.1.length ≤ 1000000) (hb : b.1.length ≤ 1000000) (hx : a.2.length = 32) (hy : b.2.length = 32) (w : World) :
    (Op.equalIn 10000 92 (.agg (lk a).toArray) (.agg (lk b).toArray)).run Try.prog w = .ok (decide (a = b)) w := by
  obtain ⟨s, x⟩ := a
  obtain ⟨t, y⟩ := b
  obtain ⟨r, hr, hiff⟩ := run_equalIn_deep (P := Try.prog) 9997 3 92 (by kernel_rfl) w 3 3 (.agg (lk (s, x)).toArray) (.agg (lk (t, y)).toArray) _ _ (formedLk s x hx) (formedLk t y hy) (keyLitsLk 0 s x ha hx) (keyLitsLk 0 t y hb hy)
  have e : r = decide ((s, x) = (t, y)) := by
    by_cases h : (s, x) = (t, y)
    · rw [decide_eq_true h]; exact hiff.2 (by cases h; rfl)
    · rw [decide_eq_false h]
      cases r with
      | false => rfl
      | true =>
        have h2 := hiff.1 rfl
        simp only [List.cons.injEq, Lit.string.injEq] at h2
        exact absurd (by rw [h2.1, lits_inj h2.2]) h
  rw [← e]
  exact hr

end Go.Proofs.Ytjakhemolecbnaa
end

/-
  The walk of Make, of the chain.
-/
section
set_option linter.unusedVariables false
set_option linter.unusedSimpArgs false
namespace Go.Proofs.Ytjakhemolecbnaa
open Go.RowKit

theorem infoLk : (Try.prog.info? 92).map (fun i => (i.zero, i.size, i.bytes)) = some (some (.agg (lk ([], hd0)).toArray), 33, 48) := by kernel_rfl
theorem info33 : (Try.prog.info? 92).map (·.size) = some 33 := by kernel_rfl
theorem built_one (s h : List UInt8) (hh : h.length = 32) : Try.prog.builtSlice 92 1 [(0, .agg (lk (s, h)).toArray)] = some (lk (s, h)).toArray := by
  rw [← range_bt h hh]
  unfold lk
  simp only []
  generalize strB s = q
  generalize bt h = f
  kernel_rfl

end Go.Proofs.Ytjakhemolecbnaa
end

/-
  The walks of the small functions around a chain: few, Same, Texts, Check.
-/
section
set_option linter.unusedVariables false
set_option linter.unusedSimpArgs false
namespace Go.Proofs.Ytjakhemolecbnaa
open Go.RowKit

theorem lk_range {w : World} {b o : Nat} {M : List (List UInt8 × List UInt8)} (hh : ∀ x ∈ M, x.2.length = 32) (hc : ∀ j u, (lv M)[j]? = some u → w.cell? ⟨b, o + j, none⟩ = some u) (i : Nat) (hi : i < M.length) : w.rangeAt b (o + i * 33) (lk M[i]) := by
  intro j v hj
  have h2 := lk_length M[i] (hh _ (List.getElem_mem hi))
  have hj' := (List.getElem?_eq_some_iff.1 hj).1
  rw [Nat.add_assoc]
  exact hc _ _ ((lv_get M hh i hi j (by omega)).trans hj)

end Go.Proofs.Ytjakhemolecbnaa
end
