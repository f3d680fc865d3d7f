/-
  The texts RefNext, RefEq, OutlineM, ChainLinks, RefMake of this proof in one (what is used of them): what each proves is said at its head. No conditions beyond those that each theorem says.
-/
import Derived.Test.YtjakhemolecbnaaND
import Derived.Test.YtjakhemolecbnaaNC
import Derived.Test.YtjakhemolecbnaaNC3
import Derived.Test.YtjakhemolecbnaaNA2

/-
  The walk of the reference's Next.
-/
section
set_option linter.unusedVariables false
set_option linter.unusedSimpArgs false
namespace Go.Proofs.Ytjakhemolecbnaa
open Go.RowKit

set_option maxRecDepth 100000 in
set_option maxHeartbeats 4000000 in
theorem refNext_any (h : List UInt8) (s : ByteArray) (w : World) (hh : h.length = 32) (hs : s.size ≤ 1500000) :
    Calls Try.prog 51 #[.agg (bv h).toArray, .string s] w fun e w' => e = .returned (.agg (bv (nextOf h s.data.toList)).toArray) ∧ Below w.heap.size w w' := by
  obtain ⟨i8, hi8, hz8, hs8, hb8⟩ := info8i
  obtain ⟨hc, ehc⟩ : ∃ hc, hc = (bv h).toArray := ⟨_, rfl⟩
  obtain ⟨z32, hz32⟩ : ∃ z32, z32 = (bv (List.replicate 32 0)).toArray := ⟨_, rfl⟩
  rw [← ehc]
  have HI8 := Lib.hid hi8
  have HZ8 := Lib.hid hz8
  have HS8 := Lib.hid hs8
  have HB8 := Lib.hid hb8
  have HHL := Lib.hid hh
  have HSS := Lib.hid hs
  clear hi8 hz8 hs8 hb8 hh hs
  go_enter Try.func51, Try.ntmps51
  go_upto_region 0 with fail
  refine wp_region_lit ?_
  refine Great.wpList_boxTo rfl 86 (.tmp 0) rfl (some 2) rfl w.heap.size rfl hc rfl ?_
  obtain ⟨w1, hw1⟩ : ∃ w1, w1 = w.alloc (.cells hc 86) := ⟨_, rfl⟩
  rw [← hw1]
  have hs1 : w1.heap.size = w.heap.size + 1 := by rw [hw1]; simp
  have hA0 : Arr w1 w.heap.size 86 (bv h) := by rw [hw1, ehc]; exact Arr.new _ _ _
  have hB1 : Below w.heap.size w w1 := by rw [hw1]; exact (Below.refl _ _).alloc (Nat.le_refl _) _
  refine Great.wpList_allocTo rfl _ rfl (.pointer (some ⟨w.heap.size + 1, 0, none⟩)) (.cells z32 86) ?x1 ?_
  case x1 => rw [hz32, ← hs1]; kernel_rfl
  refine wpList_nil ?_
  rename_i hK
  refine hK _ _ ?_
  clear hK
  obtain ⟨w2, hw2⟩ : ∃ w2, w2 = w1.alloc (.cells z32 86) := ⟨_, rfl⟩
  rw [← hw2]
  have hA1 : Arr w2 (w.heap.size + 1) 86 (bv (List.replicate 32 0)) := by rw [hw2, hz32]; exact Arr.new_at _ _ _ _ hs1.symm
  have hA0' : Arr w2 w.heap.size 86 (bv h) := by rw [hw2]; exact hA0.alloc _
  have hB2 : Below w.heap.size w w2 := by rw [hw2]; exact hB1.alloc hB1.size _
  have hR2 : RB w2 (some ⟨w.heap.size, 0, none⟩) h := by
    refine RC.bytes (fun hp => ⟨_, rfl, fun j v hj => ?_⟩)
    rw [add_off, Nat.zero_add]
    exact hA0'.cell hj
  have HA1 := Lib.hid hA1
  have HB2 := Lib.hid hB2
  have HR2 := Lib.hid hR2
  clear hw2 hw1 hs1 hA0 hB1 hA1 hA0' hB2 hR2 hz32 ehc
  go_wp2_with (at_builtin; refine append_bytes rfl _ _ 25 rfl w2.heap.size 5 Try.underlying25 info8 _ [] rfl (World.ownsRow_lit w2 #[] 0 (Nat.le_refl _) (by simp [maxLen]) rfl) _ _ _ h rfl HHL.out (HR2.out.below ((Below.refl _ _).alloc (Nat.le_refl _) _)) ?c1 ?c2 ?_)
  case c1 => simp
  case c2 => simp
  intro v5 w5 ho5 hg5 _
  have hb5 : Below w2.heap.size w2 w5 := ((Below.refl _ _).alloc (Nat.le_refl _) _).grown hg5 (by simp) (fun k hk => by simp [Value.ownBlock] at hk; omega)
  have ho5' : w5.ownsRow w2.heap.size 5 1 v5 32 (bv h) := by simpa using ho5
  have HO5 := Lib.hid ho5'
  have HB5 := Lib.hid hb5
  clear ho5 ho5' hg5 hb5
  go_wp2_with (at_builtin; refine wpList_append_str rfl (.tmp 7) (.tmp 8) 25 9 rfl w2.heap.size 5 i8 Try.underlying25 Try.underlying9 HI8.out HZ8.out HS8.out HB8.out v5 32 (bv h) rfl HO5.out (by omega) s rfl ?c1 ?c2 ?_)
  case c1 => have := HSS.out; omega
  case c2 => exact HB5.out.size
  intro v3 w3 ho3 hg3 _
  have hb3 : Below w2.heap.size w2 w3 := HB5.out.grown hg3 HB5.out.size (fun k hk => (World.ownsRow.lt HO5.out k hk).1)
  have ho3' : w3.ownsRow w2.heap.size 5 1 v3 (32 + s.size) (bv (h ++ s.data.toList)) := by rw [bv_append, ← strCells_bv]; exact ho3
  obtain ⟨A, c, rfl, _⟩ := own_slice ho3'
  have HR3 := Lib.hid (own_RC ho3').bytes
  have HB3 := Lib.hid (below_below HB2.out HB2.out.size hb3)
  have HA3 := Lib.hid (HA1.out.below hb3 HA1.out.lt)
  clear ho3 ho3' hg3 hb3
  go_wp2_with fail
  refine (refSha_any A (32 + s.size) c (h ++ s.data.toList) w3 (by rw [List.length_append, HHL.out, data_length]) (by have := HSS.out; omega) HR3.out).mono ?_
  obtain ⟨cs, ecs⟩ : ∃ cs, cs = (bv (shaOf (h ++ s.data.toList))).toArray := ⟨_, rfl⟩
  have hz : cs.size = 32 := by rw [ecs, List.size_toArray, bv_length, shaOf_length]
  have hcz : (Try.prog.info? 86).map (·.size) = some cs.size := by rw [hz]; exact info72
  have ECS := Lib.hid ecs
  have HZZ := Lib.hid hz
  have HCZ := Lib.hid hcz
  rw [← ecs]
  clear ecs hz hcz
  rintro e w4 ⟨rfl, hb4⟩
  have HA4 := Lib.hid (HA3.out.below hb4 HA3.out.lt)
  have HB4 := Lib.hid (below_below HB3.out HB3.out.size hb4)
  clear hb4
  go_wp2_with (refine wpList_store_row rfl 86 (.tmp 4) (.tmp 10) rfl (w.heap.size + 1) cs rfl rfl 86 _ HA4.out HCZ.out (by rw [HZZ.out]; rfl) (by rw [ECS.out]; exact all_oneCell_toArray (bv_one _)) ?_)
  refine bodyPost_ret (v := .agg cs) ?_ rfl ?_
  case refine_2 => exact ⟨by rw [ECS.out]; rfl, below_setRow HB4.out _ _ (by omega)⟩
  exact results_cell_row rfl _ _ (w.heap.size + 1) 86 cs (0, 0) _ rfl (setRow_heap _ _ _ _ _ _ HA4.out) Try.underlying86 rfl HCZ.out

end Go.Proofs.Ytjakhemolecbnaa
end

/-
  The reference's links: held against each other, and built.
-/
section
set_option linter.unusedVariables false
set_option linter.unusedSimpArgs false
namespace Go.Proofs.Ytjakhemolecbnaa
open Go.RowKit

theorem cellsLk2 : Try.prog.cellsOf 88 = 33 := by kernel_rfl
theorem keyLitsLk2 (d : Nat) (s x : List UInt8) (hs : s.length ≤ 1000000) (hx : x.length = 32) : Try.prog.keyLits (d + 3) 88 (lk (s, x)) = some (.string s :: x.map lit8) := by
  unfold Program.keyLits
  simp only [Try.underlying88]
  rw [if_pos ⟨by rw [lk_length _ hx, cellsLk2], by kernel_rfl⟩]
  simp only [List.mapM_cons, List.mapM_nil, cellsS, cells28]
  have e0 : ((lk (s, x)).drop 0).take 1 = [.string (strB s)] := rfl
  have e1 : ((lk (s, x)).drop 1).take 32 = bv x := by
    show (bv x).take 32 = bv x
    rw [List.take_of_length_le (by rw [bv_length, hx]; omega)]
  rw [e0, e1, keyLitS (d + 1) s hs, keyLits32 d x hx]
  simp
theorem formedLk2 (s x : List UInt8) (hx : x.length = 32) : (Value.agg (lk (s, x)).toArray).formed Try.prog 88 = true := by
  simp only [Value.formed, Try.underlying88, cellsLk2, List.size_toArray, lk_length (s, x) hx]
  rfl
/-- Two links. -/
theorem eqLk2 (a b : List UInt8 × List UInt8) (ha : a.1.length ≤ 1000000) (hb : b.1.length ≤ 1000000) (hx : a.2.length = 32) (hy : b.2.length = 32) (w : World) :
    (Op.equalIn 10000 88 (.agg (lk a).toArray) (.agg (lk b).toArray)).run Try.prog w = .ok (decide (a = b)) w := by
  obtain ⟨s, x⟩ := a
  obtain ⟨t, y⟩ := b
  obtain ⟨r, hr, hiff⟩ := run_equalIn_deep (P := Try.prog) 9997 3 88 (by kernel_rfl) w 3 3 (.agg (lk (s, x)).toArray) (.agg (lk (t, y)).toArray) _ _ (formedLk2 s x hx) (formedLk2 t y hy) (keyLitsLk2 0 s x ha hx) (keyLitsLk2 0 t y hb hy)
  have e : r = decide ((s, x) = (t, y)) := by
    by_cases h : (s, x) = (t, y)
    · rw [decide_eq_true h]; exact hiff.2 (by cases h; rfl)
    · rw [decide_eq_false h]
      cases r with
      | false => rfl
      | true =>
        have h2 := hiff.1 rfl
        simp only [List.cons.injEq, Lit.string.injEq] at h2
        exact absurd (by rw [h2.1, lits_inj h2.2]) h
  rw [← e]
  exact hr

theorem infoLkr : (Try.prog.info? 88).map (fun i => (i.zero, i.size, i.bytes)) = some (some (.agg (lk ([], hd0)).toArray), 33, 48) := by kernel_rfl
theorem info33r : (Try.prog.info? 88).map (·.size) = some 33 := by kernel_rfl
theorem built_link2 (s h : List UInt8) (hh : h.length = 32) : Try.prog.built 88 [(0, .string (strB s)), (1, .agg (bv h).toArray)] = some (lk (s, h)).toArray := by
  rw [← range_bt h hh]
  unfold lk
  simp only []
  generalize strB s = q
  generalize bt h = f
  kernel_rfl
theorem built_one2 (s h : List UInt8) (hh : h.length = 32) : Try.prog.builtSlice 88 1 [(0, .agg (lk (s, h)).toArray)] = some (lk (s, h)).toArray := by
  rw [← range_bt h hh]
  unfold lk
  simp only []
  generalize strB s = q
  generalize bt h = f
  kernel_rfl


end Go.Proofs.Ytjakhemolecbnaa
end

/-
  A region that draws its order, proved by an outline in which a property is kept only once its operation is done.
-/
section
set_option linter.unusedVariables false
set_option linter.unusedSimpArgs false
namespace Go.Proofs.Ytjakhemolecbnaa
open Go.RowKit

variable {P : Program} {ops : Array Oper} {Q : Exit → Act → World → Prop}

def OpOkM (P : Program) (ops : Array Oper) (Q : Exit → Act → World → Prop) (a : Act) (I : Array Bool → World → Prop) (φ : Nat → Value → World → Prop) (i : Nat) (o : Oper) : Prop :=
  ∀ (l : Array Bool) (a' : Act) (w' : World) (K : Act → World → Prop), I l w' → (∀ j k, edgeB ops j k = true → l.getD k false = false → l.getD j false = false) → l.size = ops.size → l.getD i false = false →
    (∀ j t, depB ops i j t = true → φ j (a'.tmps.getD t undef) w') →
    (∀ t, quietB ops i t = true → a'.tmps.getD t undef = a.tmps.getD t undef) →
    (∀ v w'', I (l.setIfInBounds i true) w'' → (∀ j u, l.getD j false = true → φ j u w' → φ j u w'') → φ i v w'' → K (a'.put o.dst v) w'') →
    if Region.wanted o (yielded ops a'.tmps) = true then o.wp P a' w' K Q else K (a'.put o.dst undef) w'

theorem Mid.stepM {a : Act} {I : Array Bool → World → Prop} {φ : Nat → Value → World → Prop} {listed : Array Bool} {a' : Act} {w' w'' : World} {i : Nat} {o : Oper} {v : Value}
    (hap : apartB ops a.tmps.size = true) (h : Mid ops a I φ listed a' w') (ho : ops[i]? = some o) (hn : listed.getD i true = false)
    (hb : ∀ e ∈ o.after.toList, Region.binds .any e = true → listed.getD e.on false = true)
    (hI : I (listed.setIfInBounds i true) w'') (hφ : ∀ j u, listed.getD j false = true → φ j u w' → φ j u w'') (hv : φ i v w'') : Mid ops a I φ (listed.setIfInBounds i true) (a'.put o.dst v) w'' := by
  have hi : i < ops.size := (Array.getElem?_eq_some_iff.1 ho).1
  have hil : i < listed.size := by rw [h.len]; exact hi
  refine ⟨hI, by rw [put_size, h.size], by rw [put_defers, h.defers], by simp [h.len], ?_, ?_, ?_, ?_⟩
  · intro j oj hj hl e he hbe
    rw [getD_set _ _ _ hil] at hl ⊢
    by_cases hji : j = i
    · subst hji
      rw [ho] at hj
      cases hj
      split
      · rfl
      · exact hb e he hbe
    · rw [if_neg hji] at hl
      split
      · rfl
      · exact h.closed j oj hj hl e he hbe
  · intro j oj t hj hl hd
    rw [getD_set _ _ _ hil] at hl
    by_cases hji : j = i
    · subst hji
      rw [ho] at hj
      cases hj
      rw [hd, put_getD_same _ _ _ (by rw [h.size]; exact apart_lt hap ho hd)]
      exact hv
    · rw [if_neg hji] at hl
      have h1 := hφ j _ hl (h.has j oj t hj hl hd)
      cases hdi : o.dst with
      | none => exact h1
      | some s =>
        have hst : t ≠ s := fun e => hji (by subst e; exact apart_ne hap hj ho hd hdi)
        rw [put_getD_other _ _ _ _ hst]
        exact h1
  · intro j oj hj hl hd
    rw [getD_set _ _ _ hil] at hl
    by_cases hji : j = i
    · subst hji
      exact ⟨v, hv⟩
    · rw [if_neg hji] at hl
      obtain ⟨u, hu⟩ := h.bare j oj hj hl hd
      exact ⟨u, hφ j u hl hu⟩
  · intro t ht
    have h1 : ∀ j oj, ops[j]? = some oj → listed.getD j false = true → oj.dst ≠ some t := by
      intro j oj hj hl
      refine ht j oj hj ?_
      rw [getD_set _ _ _ hil]
      split
      · rfl
      · exact hl
    have h2 : o.dst ≠ some t := ht i o ho (by rw [getD_set _ _ _ hil, if_pos rfl])
    rw [← h.old t h1]
    cases hdi : o.dst with
    | none => rfl
    | some s => exact put_getD_other _ _ _ _ (fun e => h2 (by rw [hdi, e]))

theorem outline_walkM {a : Act} {I : Array Bool → World → Prop} {φ : Nat → Value → World → Prop} (hap : apartB ops a.tmps.size = true)
    (ok : ∀ i o, ops[i]? = some o → OpOkM P ops Q a I φ i o)
    (fin : ∀ listed a' w', Mid ops a I φ listed a' w' → (∀ i, i < ops.size → listed.getD i false = true) → Q .normal a' w')
    (acyc : ∀ listed : Array Bool, listed.size = ops.size → Region.ready .any ops listed = [] → ∀ i, i < ops.size → listed.getD i false = true) :
    ∀ fuel listed a' w', Mid ops a I φ listed a' w' → (fuel + (listed.toList.filter id).length = ops.size) → wpAny P .any ops Q fuel listed a' w' := by
  intro fuel
  induction fuel with
  | zero =>
    intro listed a' w' h hf
    have hall : ∀ i, i < ops.size → listed.getD i false = true := by
      intro i hi
      have h1 : (listed.toList.filter id).length = listed.toList.length := by
        have := h.len
        have h3 : listed.toList.length = listed.size := Array.length_toList
        omega
      have h2 := List.length_filter_eq_length_iff.1 h1
      have hil : i < listed.size := by rw [h.len]; exact hi
      have := h2 listed[i] (by simp)
      simpa [Array.getD_eq_getD_getElem?, hil] using this
    refine ⟨?_, fin listed a' w' h hall⟩
    unfold Region.ready
    rw [List.filter_eq_nil_iff]
    intro i hi
    have h1 := hall i (List.mem_range.1 hi)
    have h2 : listed.getD i true = true := by
      have hil : i < listed.size := by rw [h.len]; exact List.mem_range.1 hi
      simpa [Array.getD_eq_getD_getElem?, hil] using h1
    simp [h2]
  | succ fuel ih =>
    intro listed a' w' h hf
    refine ⟨fun hr => fin listed a' w' h (acyc listed h.len hr), ?_⟩
    intro i hi
    unfold Region.ready at hi
    obtain ⟨hi1, hi2⟩ := List.mem_filter.1 hi
    have hi1 := List.mem_range.1 hi1
    have ho : ops[i]? = some ops[i] := Array.getElem?_eq_getElem hi1
    simp only [ho, Option.map_some, Option.getD_some, Bool.and_eq_true, Bool.not_eq_true'] at hi2
    obtain ⟨hn, hb⟩ := hi2
    have hil : i < listed.size := by rw [h.len]; exact hi1
    have hnf : listed.getD i false = false := by
      simpa [Array.getD_eq_getD_getElem?, hil] using hn
    have hb' : ∀ e ∈ ops[i].after.toList, Region.binds .any e = true → listed.getD e.on false = true := by
      intro e he hbe
      have h1 := Array.all_eq_true_iff_forall_mem.1 hb e (by simpa using he)
      simpa [hbe] using h1
    refine wpOp_step ho (fun K' hK => ?_)
    have hcl : ∀ j k, edgeB ops j k = true → listed.getD k false = false → listed.getD j false = false := by
      intro j k hjk hk
      unfold edgeB at hjk
      cases hoj : ops[j]? with
      | none => rw [hoj] at hjk; cases hjk
      | some oj =>
        rw [hoj] at hjk
        obtain ⟨e, he, h2⟩ := Array.any_eq_true'.1 hjk
        simp only [Bool.and_eq_true, beq_iff_eq] at h2
        cases hx : listed.getD j false with
        | false => rfl
        | true =>
          have h3 := h.closed j oj hoj hx e (by simpa using he) h2.1
          rw [h2.2, hk] at h3
          cases h3
    refine ok i ops[i] ho listed a' w' K' h.inv hcl h.len hnf ?_ ?_ ?_
    · intro j t hdep
      unfold depB at hdep
      rw [ho] at hdep
      cases hoj : ops[j]? with
      | none => rw [hoj] at hdep; cases hdep
      | some oj =>
        rw [hoj] at hdep
        simp only [Bool.and_eq_true, beq_iff_eq] at hdep
        obtain ⟨e, he, h2⟩ := Array.any_eq_true'.1 hdep.2
        simp only [Bool.and_eq_true, beq_iff_eq] at h2
        have h3 := hb' e (by simpa using he) h2.1
        rw [h2.2] at h3
        exact h.has j oj t hoj h3 hdep.1
    · intro t ht
      refine h.old t ?_
      intro j oj hj hl hd
      have hj1 : j < ops.size := (Array.getElem?_eq_some_iff.1 hj).1
      have h1 := List.all_eq_true.1 ht j (List.mem_range.2 hj1)
      simp only [hj, hd] at h1
      simp only [bne_self_eq_false, Bool.false_or, Bool.or_eq_true, beq_iff_eq] at h1
      rcases h1 with h1 | h1
      · subst h1
        rw [hnf] at hl
        cases hl
      · obtain ⟨e, he, h2⟩ := Array.any_eq_true'.1 h1
        simp only [Bool.and_eq_true, beq_iff_eq] at h2
        have h3 := h.closed j oj hj hl e (by simpa using he) h2.1
        rw [h2.2, hnf] at h3
        cases h3
    · intro v w'' hI hφ hv
      refine hK _ _ (ih _ _ _ (h.stepM hap ho hn hb' hI hφ hv) ?_)
      have hset : ((listed.setIfInBounds i true).toList.filter id).length = (listed.toList.filter id).length + 1 := by
        have hg : listed.toList[i]'(by simpa using hil) = false := by
          simpa [Array.getD_eq_getD_getElem?, hil] using hnf
        rw [Array.toList_setIfInBounds]
        have key : ∀ (l : List Bool) (i : Nat) (h : i < l.length), l[i] = false → ((l.set i true).filter id).length = (l.filter id).length + 1 := by
          intro l
          induction l with
          | nil => intro i h; simp at h
          | cons x l ihl =>
            intro i h hx
            cases i with
            | zero => simp only [List.getElem_cons_zero] at hx; subst hx; simp
            | succ i =>
              simp only [List.getElem_cons_succ] at hx
              have := ihl i (by simpa using h) hx
              cases x <;> simp [this]
        exact key _ _ _ hg
      omega

theorem region_outlineM {id : Nat} {a : Act} {w : World} (I : Array Bool → World → Prop) (φ : Nat → Value → World → Prop) (hm : P.follows .mixedOrders = true)
    (hap : apartB ops a.tmps.size = true) (hback : backB ops = true) (hI : I (Array.replicate ops.size false) w.drew)
    (ok : ∀ i o, ops[i]? = some o → OpOkM P ops Q a I φ i o)
    (fin : ∀ (l : Array Bool) (v : Nat → Value) (w' : World), l.size = ops.size → (∀ i, i < ops.size → l.getD i false = true) → I l w' → (∀ j, j < ops.size → φ j (v j) w') → Q .normal (fillFrom v ops.toList 0 a) w') : (Code.region id ops true).wp P Q a w := by
  refine wp_region_any hm ?_
  refine outline_walkM (I := I) (φ := φ) hap ok ?_ (acyc_of_back hback) ops.size _ _ _ ?_ ?_
  · intro listed a' w' h hall
    have hex : ∀ j, ∃ u, j < ops.size → φ j u w' ∧ ∀ o t, ops[j]? = some o → o.dst = some t → a'.tmps.getD t undef = u := by
      intro j
      by_cases hj : j < ops.size
      · have ho : ops[j]? = some ops[j] := Array.getElem?_eq_getElem hj
        cases hd : ops[j].dst with
        | none =>
          obtain ⟨u, hu⟩ := h.bare j _ ho (hall j hj) hd
          exact ⟨u, fun _ => ⟨hu, fun o t h1 h2 => by rw [ho] at h1; cases h1; rw [hd] at h2; cases h2⟩⟩
        | some t =>
          exact ⟨_, fun _ => ⟨h.has j _ t ho (hall j hj) hd, fun o t' h1 h2 => by rw [ho] at h1; cases h1; rw [hd] at h2; cases h2; rfl⟩⟩
      · exact ⟨undef, fun h => absurd h hj⟩
    have hv := fun j => Classical.choose_spec (hex j)
    have e : a' = fillFrom (fun j => Classical.choose (hex j)) ops.toList 0 a := by
      have hsz : a'.tmps = (fillFrom (fun j => Classical.choose (hex j)) ops.toList 0 a).tmps := by
        apply Array.ext
        · rw [fill_size, h.size]
        · intro t h1 h2
          have key : a'.tmps.getD t undef = (fillFrom (fun j => Classical.choose (hex j)) ops.toList 0 a).tmps.getD t undef := by
            by_cases hc : ∃ (j : Nat) (o : Oper), ops[j]? = some o ∧ o.dst = some t
            · obtain ⟨j, o, ho, hd⟩ := hc
              have hj : j < ops.size := (Array.getElem?_eq_some_iff.1 ho).1
              rw [fill_at _ t ops.toList 0 a j o (by simpa using ho) hd (apart_lt hap ho hd) (fun i o' hi hd' => apart_ne hap (by simpa using hi) ho hd' hd)]
              rw [Nat.zero_add]
              exact (hv j hj).2 o t ho hd
            · have hc' : ∀ (j : Nat) (o : Oper), ops[j]? = some o → o.dst ≠ some t := fun j o ho hd => hc ⟨j, o, ho, hd⟩
              rw [h.old t (fun j o ho _ => hc' j o ho), fill_other _ t ops.toList 0 a (fun o ho hd => by
                obtain ⟨i, hi⟩ := List.getElem?_of_mem ho
                exact hc' i o (by simpa using hi) hd)]
          rw [Array.getD_eq_getD_getElem?, Array.getD_eq_getD_getElem?, Array.getElem?_eq_getElem h1, Array.getElem?_eq_getElem h2] at key
          exact key
      have hdf : a'.defers = (fillFrom (fun j => Classical.choose (hex j)) ops.toList 0 a).defers := by rw [fill_defers, h.defers]
      cases a'
      cases hf : fillFrom (fun j => Classical.choose (hex j)) ops.toList 0 a
      rw [hf] at hsz hdf
      cases hsz
      cases hdf
      rfl
    rw [e]
    exact fin _ _ w' h.len hall h.inv (fun j hj => (hv j hj).1)
  · refine ⟨hI, rfl, rfl, by simp, ?_, ?_, ?_, ?_⟩
    · intro j o hj hl
      simp [Array.getD_eq_getD_getElem?, Array.getElem?_replicate] at hl
      split at hl <;> simp at hl
    · intro j o t hj hl
      simp [Array.getD_eq_getD_getElem?, Array.getElem?_replicate] at hl
      split at hl <;> simp at hl
    · intro j o hj hl
      simp [Array.getD_eq_getD_getElem?, Array.getElem?_replicate] at hl
      split at hl <;> simp at hl
    · intro t _
      rfl
  · simp

def OkAllM (P : Program) (ops : Array Oper) (Q : Exit → Act → World → Prop) (a : Act) (I : Array Bool → World → Prop) (L : List (Value → World → Prop)) : List Oper → Nat → Prop
  | [], _ => True
  | o :: l, k => OpOkM P ops Q a I (nth L) k o ∧ OkAllM P ops Q a I L l (k + 1)
theorem ok_allM {a : Act} {I : Array Bool → World → Prop} {L : List (Value → World → Prop)} : ∀ (l : List Oper) (k : Nat), OkAllM P ops Q a I L l k → ∀ i o, l[i]? = some o → OpOkM P ops Q a I (nth L) (k + i) o
  | [], _, _, i, o, h => by simp at h
  | o :: l, k, h, 0, o', h' => by
    simp only [List.getElem?_cons_zero, Option.some.injEq] at h'
    subst h'
    exact h.1
  | o :: l, k, h, i + 1, o', h' => by
    have := ok_allM l (k + 1) h.2 i o' (by simpa using h')
    rwa [show k + 1 + i = k + (i + 1) by omega] at this
theorem region_byM {id : Nat} {a : Act} {w : World} (I : Array Bool → World → Prop) (L : List (Value → World → Prop)) (hm : P.follows .mixedOrders = true)
    (hap : apartB ops a.tmps.size = true) (hback : backB ops = true) (hlen : L.length = ops.toList.length) (hI : I (Array.replicate ops.size false) w.drew)
    (ok : OkAllM P ops Q a I L ops.toList 0) (fin : ∀ l w', l.size = ops.size → (∀ i, i < ops.size → l.getD i false = true) → I l w' → FinGoal Q w' L ops.toList a) : (Code.region id ops true).wp P Q a w := by
  refine region_outlineM I (nth L) hm hap hback hI (fun i o h => ?_) (fun l v w' hl1 hl2 hI' hv => ?_)
  · have := ok_allM ops.toList 0 ok i o (by simpa using h)
    rwa [Nat.zero_add] at this
  · exact fin_goal v L ops.toList 0 a hlen (fin l w' hl1 hl2 hI') (fun j hj => by rw [Nat.zero_add]; exact hv j (by simpa using hj))

end Go.Proofs.Ytjakhemolecbnaa
end

/-
  The walk of the law ChainLinks.
-/
section
set_option linter.unusedVariables false
set_option linter.unusedSimpArgs false
namespace Go.Proofs.Ytjakhemolecbnaa
open Go.RowKit

/-- What stands while operation k, the store into the block g, has not been done. -/
structure HeadI (w5 : World) (g k : Nat) (hd : List UInt8) (l : Array Bool) (W : World) : Prop where
  below : Below g w5 W
  lt : g < W.heap.size
  head : l.getD k false = false → Arr W g 86 (bv hd)
theorem HeadI.set {w5 : World} {g k : Nat} {hd : List UInt8} {l : Array Bool} {W : World} (h : HeadI w5 g k hd l W) (i : Nat) : HeadI w5 g k hd (l.setIfInBounds i true) W := by
  refine ⟨h.below, h.lt, fun hl => h.head ?_⟩
  rw [Array.getD_eq_getD_getElem?, Array.getElem?_setIfInBounds] at hl
  rw [Array.getD_eq_getD_getElem?]
  by_cases hi : i = k
  · subst hi
    by_cases hs : i < l.size
    · simp [hs] at hl
    · simp [hs]
  · simpa [hi] using hl
theorem op_do {P : Program} {ops : Array Oper} {Q : Exit → Act → World → Prop} {a' : Act} {w' : World} {K : Act → World → Prop} {o : Oper} {E : Prop} (hw : Region.wanted o (yielded ops a'.tmps) = true) (h : o.wp P a' w' K Q) :
    if Region.wanted o (yielded ops a'.tmps) = true then o.wp P a' w' K Q else E := by
  rw [if_pos hw]
  exact h
theorem mkOf_map (F : List (List UInt8)) : (mkOf F).map (·.1) = F := by
  apply List.ext_getElem
  · rw [List.length_map, mkOf_length]
  · intro i h1 h2
    rw [List.getElem_map, mkOf_get F i (by rw [mkOf_length]; exact h2) h2]
end Go.Proofs.Ytjakhemolecbnaa
end

/-
  The walk of the reference's Make, of the chain (under way).
-/
section
set_option linter.unusedVariables false
set_option linter.unusedSimpArgs false
namespace Go.Proofs.Ytjakhemolecbnaa
open Go.RowKit

section
variable {P : Program}
/-- A slice literal, in a region that draws. -/
theorem op_buildSlice {ops : Array Oper} {o : Oper} {a : Act} {K : Act → World → Prop} {Q : Exit → Act → World → Prop} {E : Prop} {w : World} (hw : Region.wanted o (yielded ops a.tmps) = true)
    (t e : TypeId) (len : Nat) (parts : Array (Nat × Operand)) (ho : o.op = .buildSlice t len parts) (hu : P.underlying t = some (.slice e)) (cells : Array Value)
    (hf : P.builtSlice e len (parts.map fun (i, x) => (i, a.eval x)).toList = some cells)
    (h : K (a.put o.dst (.slice (some ⟨w.heap.size, 0, none⟩) len len)) (w.alloc (.cells cells e))) : if Region.wanted o (yielded ops a.tmps) = true then o.wp P a w K Q else E := by
  rw [if_pos hw]
  unfold Program.builtSlice at hf
  cases hie : P.info? e with
  | none => rw [hie] at hf; cases hf
  | some ie =>
    rw [hie] at hf
    simp only at hf
    cases hz : ie.zero with
    | none => rw [hz] at hf; cases hf
    | some z =>
      rw [hz] at hf
      simp only at hf
      split at hf
      · cases hf
      · rename_i hc
        exact wp_buildSlice t e len parts ho cells ie z hu hie hz (fun h => hc (.inl h)) (fun h => hc (.inr h)) hf h
end

/-- What stands while operation k, the store into the block g, has not been done: nothing else is turned. -/
structure HeadU (w5 : World) (g k : Nat) (hd : List UInt8) (l : Array Bool) (W : World) : Prop where
  upd : Upd (fun q => q = g) w5 W
  lt : g < W.heap.size
  head : l.getD k false = false → Arr W g 86 (bv hd)
theorem unset {l : Array Bool} {k i : Nat} (hl : (l.setIfInBounds i true).getD k false = false) : l.getD k false = false := by
  rw [Array.getD_eq_getD_getElem?, Array.getElem?_setIfInBounds] at hl
  rw [Array.getD_eq_getD_getElem?]
  by_cases hi : i = k
  · subst hi
    by_cases hs : i < l.size
    · simp [hs] at hl
    · simp [hs]
  · simpa [hi] using hl
theorem HeadU.set {w5 : World} {g k : Nat} {hd : List UInt8} {l : Array Bool} {W : World} (h : HeadU w5 g k hd l W) (i : Nat) : HeadU w5 g k hd (l.setIfInBounds i true) W := ⟨h.upd, h.lt, fun hl => h.head (unset hl)⟩
/-- What stands while operation k, the append to vo, has not been done. -/
structure MkI (w : World) (g k : Nat) (h2 : List UInt8) (vo : Value) (i : Nat) (xs : List Value) (l : Array Bool) (W : World) : Prop where
  below : Below g w W
  arr : Arr W g 86 (bv h2)
  own : l.getD k false = false → W.ownsRow (g + 1) 88 33 vo i xs
theorem MkI.set {w : World} {g k : Nat} {h2 : List UInt8} {vo : Value} {i : Nat} {xs : List Value} {l : Array Bool} {W : World} (h : MkI w g k h2 vo i xs l W) (j : Nat) : MkI w g k h2 vo i xs (l.setIfInBounds j true) W := ⟨h.below, h.arr, fun hl => h.own (unset hl)⟩
theorem MkI.grow {w : World} {g k : Nat} {h2 : List UInt8} {vo : Value} {i : Nat} {xs : List Value} {l : Array Bool} {W W' : World} (h : MkI w g k h2 vo i xs l W) (hb : Below W.heap.size W W') : MkI w g k h2 vo i xs l W' :=
  ⟨below_below h.below (Nat.le_of_lt h.arr.lt) hb, h.arr.below hb h.arr.lt, fun hl => own_below (h.own hl) hb⟩

set_option maxRecDepth 100000 in
set_option maxHeartbeats 8000000 in
theorem refMake_any (A : Option Addr) (n c : Nat) (L : List (List UInt8)) (w : World) (hl : L.length = n) (hn : n ≤ 100000) (hs : ∀ x ∈ L, x.length ≤ 1500000) (hr : RS w A L) :
    Calls Try.prog 26 #[.slice A n c] w fun e w' => ∃ v, e = .returned v ∧ w'.ownsRow w.heap.size 88 33 v L.length (lv (mkOf L)) ∧ Below w.heap.size w w' := by
  subst hl
  have HL := Lib.hid hr
  have HSM := Lib.hid hs
  have HN := Lib.hid hn
  clear hr hs
  go_enter Try.func26, Try.ntmps26
  obtain ⟨z32, hz32⟩ : ∃ z32, z32 = (bv (List.replicate 32 0)).toArray := ⟨_, rfl⟩
  go_upto_region 2 with fail
  refine wp_region_lit ?_
  refine Great.wpList_allocTo rfl _ rfl (.pointer (some ⟨w.heap.size, 0, none⟩)) (.cells z32 86) ?x1 ?_
  case x1 => rw [hz32]; kernel_rfl
  refine wpList_nil ?_
  rename_i hK
  refine hK _ _ ?_
  clear hK
  obtain ⟨w1, hw1⟩ : ∃ w1, w1 = w.alloc (.cells z32 86) := ⟨_, rfl⟩
  rw [← hw1]
  have HA1 := Lib.hid (show Arr w1 w.heap.size 86 (bv (headOf [])) by rw [hw1, hz32]; exact Arr.new _ _ _)
  have HB1 := Lib.hid (show Below w.heap.size w w1 by rw [hw1]; exact (Below.refl _ _).alloc (Nat.le_refl _) _)
  have HS1 := Lib.hid (show w1.heap.size = w.heap.size + 1 by rw [hw1]; simp)
  clear hw1 hz32
  go_wp2_with fail
  go_loopg [3, 5] L.length (fun k s3 s5 wr => ∃ (i : Nat) (vo : Value), i ≤ L.length ∧ k = L.length - i ∧ s5 = .int .i64 (i : Int) ∧ s3 = vo ∧ wr.ownsRow (w.heap.size + 1) 88 33 vo i (lv (mkOf (L.take i))) ∧ Arr wr w.heap.size 86 (bv (headOf (L.take i))) ∧ Below w.heap.size w wr)
  case atStart => exact ⟨0, _, Nat.zero_le _, by omega, rfl, rfl, World.ownsRow_nil _ _ _ _, HA1.out, HB1.out⟩
  case round =>
    obtain ⟨i, _, hi, hk, rfl, rfl, ho, ha, hb⟩ := hrel
    have HK := Lib.hid hk
    have HO := Lib.hid ho
    have HA := Lib.hid ha
    have HB := Lib.hid hb
    clear hk ho ha hb HA1 HB1
    by_cases hlt : i < L.length
    · obtain ⟨bl, ol, rfl, e1⟩ := HL.out.parts (by rw [sv_length]; omega)
      have k1 := e1 i _ (sv_get' L i hlt)
      have hxs : (L[i]).length ≤ 1500000 := HSM.out _ (List.getElem_mem hlt)
      have HT := Lib.hid (show L.take (i + 1) = L.take i ++ [L[i]] from List.take_succ_eq_append_getElem hlt)
      have HTI := Lib.hid (show i = (L.take i).length by rw [List.length_take]; omega)
      have K1 := Lib.hid k1
      generalize L[i] = x at *
      generalize L.take i = T at *
      have HXS := Lib.hid (show (strB x).size ≤ 1500000 by rw [strB_size]; exact hxs)
      clear e1 hxs
      obtain ⟨hd, ehd⟩ : ∃ hd, hd = headOf T := ⟨_, rfl⟩
      have hhl : hd.length = 32 := by rw [ehd]; exact headOf_length T
      rw [← ehd] at HA
      obtain ⟨hc, ehc⟩ : ∃ hc, hc = (bv hd).toArray := ⟨_, rfl⟩
      have hcs : hc.size = 32 := by rw [ehc, List.size_toArray, bv_length, hhl]
      have hcz : (Try.prog.info? 86).map (·.size) = some hc.size := by rw [hcs]; exact info72
      have HAc := Lib.hid (show wr.heap[w.heap.size]? = some (.cells hc 86) by rw [ehc]; exact HA.out)
      have EHD := Lib.hid ehd
      have HHL := Lib.hid hhl
      have EHC := Lib.hid ehc
      have HCS := Lib.hid hcs
      have HCZ := Lib.hid hcz
      clear ehd hhl ehc hcs hcz
      obtain ⟨h2, eh2⟩ : ∃ h2, h2 = nextOf hd x := ⟨_, rfl⟩
      have hhl2 : h2.length = 32 := by rw [eh2]; exact nextOf_length _ _
      obtain ⟨hc2, ehc2⟩ : ∃ hc2, hc2 = (bv h2).toArray := ⟨_, rfl⟩
      have hcs2 : hc2.size = 32 := by rw [ehc2, List.size_toArray, bv_length, hhl2]
      have HCZ2 := Lib.hid (show (Try.prog.info? 86).map (·.size) = some hc2.size by rw [hcs2]; exact info72)
      have HONE2 := Lib.hid (show hc2.all (·.oneCell') = true by rw [ehc2]; exact all_oneCell_toArray (bv_one _))
      have HCS2 := Lib.hid hcs2
      have EH2 := Lib.hid eh2
      have HHL2 := Lib.hid hhl2
      have EHC2 := Lib.hid ehc2
      have HXB := Lib.hid (strB_toList x)
      obtain ⟨sx, esx⟩ : ∃ sx, sx = strB x := ⟨_, rfl⟩
      have ESX := Lib.hid esx
      rw [← esx] at HXS HXB k1
      have HST := Lib.hid (show ∀ W, Upd (fun q => q = w.heap.size) wr W → W.cell? ⟨bl, ol + i, none⟩ = some (.string sx) from fun W h => cell_below (below_upd HB.out HB.out.size h (fun k hk => by rw [hk]; exact Nat.le_refl _)) k1)
      have HGL := Lib.hid (Arr.lt HA.out)
      have hi0 : (0 : Int) ≤ (i : Int) := by omega
      have hi1 : (i : Int) < (L.length : Int) := by omega
      have hiN : (i : Int) ≤ 100000 := by have := HN.out; omega
      have HLT := Lib.hid hlt
      clear eh2 hhl2 ehc2 hcs2 esx hlt hi k1
      have HTL := Lib.hid (show T.length ≤ 100000 by have := HTI.out; omega)
      have HMS := Lib.hid (show mkOf (T ++ [x]) = mkOf T ++ [(x, h2)] by rw [mkOf_snoc, EH2.out, EHD.out])
      have hlkl := lk_length (x, h2) HHL2.out
      obtain ⟨lc, elc⟩ : ∃ lc, lc = (lk (x, h2)).toArray := ⟨_, rfl⟩
      have HF := Lib.hid (show Try.prog.built 88 [(0, .string sx), (1, .agg hc2)] = some lc by rw [elc, EHC2.out, ESX.out]; exact built_link2 x h2 HHL2.out)
      have HF1 := Lib.hid (show Try.prog.builtSlice 88 1 [(0, .agg lc)] = some lc by rw [elc]; exact built_one2 x h2 HHL2.out)
      have ELC := Lib.hid elc
      have HLK := Lib.hid hlkl
      clear hlkl elc
      go_upto_region 6 with fail
      go_cut [17] (fun s17 wx => Arr wx w.heap.size 86 (bv h2) ∧ Upd (fun q => q = w.heap.size) wr wx)
      case first =>
        refine region_byL (HeadU wr w.heap.size 6 hd) [fun v _ => v = .agg hc, (fun v _ => v = .slice (some ⟨bl, ol, none⟩) L.length c), (fun v _ => v = .int .i64 (i : Int)), (fun v _ => v = .pointer (some ⟨bl, ol + i, none⟩)), (fun v _ => v = .string sx), fun v _ => v = .agg hc2, fun _ w' => Arr w' w.heap.size 86 (bv h2)] (by kernel_rfl) (by kernel_rfl) (by kernel_rfl) rfl (⟨(Upd.refl _ _).drew, HGL.out, fun _ => HA.out.drew⟩) ?ok6 ?fin6
        case ok6 =>
          refine ⟨?_, ?_, ?_, ?_, ?_, ?_, ?_, trivial⟩
          · intro l a' w' K hI hcl hsz hn hd hq hK
            have e4 : a'.eval (.tmp 4) = .pointer (some ⟨w.heap.size, 0, none⟩) := (hq 4 (by kernel_rfl)).trans rfl
            clear hd hq
            have h6 : l.getD 6 false = false := hcl 6 0 (by kernel_rfl) hn
            have hrow : w'.heap[w.heap.size]? = some (.cells hc 86) := by rw [EHC.out]; exact hI.head h6
            refine op_value (wanted_free _ _ (by rfl)) (v := .agg hc) (w'' := w') ?_ (hK _ _ (hI.set _) (fun _ _ h => h) rfl)
            simp only [execOp, e4, Instr.loadAt, Instr.sureAddr, Sem.run_bind, Sem.run_pure, Result.andThen_ok, run_loadVar_row w' w.heap.size 86 86 hc (0, 0) _ hrow Try.underlying86 rfl HCZ.out]
          · intro l a' w' K hI hcl hsz hn hd hq hK
            have e0 : a'.eval (.tmp 0) = .slice (some ⟨bl, ol, none⟩) L.length c := (hq 0 (by kernel_rfl)).trans rfl
            clear hd hq hcl hsz hn
            refine op_value (wanted_free _ _ (by rfl)) (v := .slice (some ⟨bl, ol, none⟩) L.length c) (w'' := w') ?_ (hK _ _ (hI.set _) (fun _ _ h => h) rfl)
            clear hK
            simp only [execOp, e0]
            have f0 : a'.tmps[0]?.getD undef = .slice (some ⟨bl, ol, none⟩) L.length c := (Array.getD_eq_getD_getElem? ..).symm.trans e0
            clear e0
            first | rfl | (go_simp <;> exact IntWalk.i64_in _ (by omega))
          · intro l a' w' K hI hcl hsz hn hd hq hK
            have e5 : a'.eval (.tmp 5) = .int .i64 (i : Int) := (hq 5 (by kernel_rfl)).trans rfl
            clear hd hq hcl hsz hn
            refine op_value (wanted_free _ _ (by rfl)) (v := .int .i64 (i : Int)) (w'' := w') ?_ (hK _ _ (hI.set _) (fun _ _ h => h) rfl)
            clear hK
            simp only [execOp, e5]
            have f5 : a'.tmps[5]?.getD undef = .int .i64 (i : Int) := (Array.getD_eq_getD_getElem? ..).symm.trans e5
            clear e5
            first | rfl | (go_simp <;> exact IntWalk.i64_in _ (by omega))
          · intro l a' w' K hI hcl hsz hn hd hq hK
            have e13 : a'.eval (.tmp 13) = .slice (some ⟨bl, ol, none⟩) L.length c := (hd 1 13 (by kernel_rfl))
            have e14 : a'.eval (.tmp 14) = .int .i64 (i : Int) := (hd 2 14 (by kernel_rfl))
            clear hd hq hcl hsz hn
            refine op_value (wanted_free _ _ (by rfl)) (v := .pointer (some ⟨bl, ol + i, none⟩)) (w'' := w') ?_ (hK _ _ (hI.set _) (fun _ _ h => h) rfl)
            clear hK
            simp only [execOp, e13, e14]
            have f13 : a'.tmps[13]?.getD undef = .slice (some ⟨bl, ol, none⟩) L.length c := (Array.getD_eq_getD_getElem? ..).symm.trans e13
            have f14 : a'.tmps[14]?.getD undef = .int .i64 (i : Int) := (Array.getD_eq_getD_getElem? ..).symm.trans e14
            clear e13 e14
            first | rfl | (go_simp <;> exact IntWalk.i64_in _ (by omega))
          · intro l a' w' K hI hcl hsz hn hd hq hK
            have e15 : a'.eval (.tmp 15) = .pointer (some ⟨bl, ol + i, none⟩) := (hd 3 15 (by kernel_rfl))
            clear hd hq hcl hsz hn
            have hst := HST.out w' hI.upd
            refine op_value (wanted_free _ _ (by rfl)) (v := .string sx) (w'' := w') ?_ (hK _ _ (hI.set _) (fun _ _ h => h) rfl)
            clear hK
            simp only [execOp, e15]
            have f15 : a'.tmps[15]?.getD undef = .pointer (some ⟨bl, ol + i, none⟩) := (Array.getD_eq_getD_getElem? ..).symm.trans e15
            clear e15
            first | rfl | (go_simp <;> exact IntWalk.i64_in _ (by omega))
          · intro l a' w' K hI hcl hsz hn hd hq hK
            have e12 : a'.eval (.tmp 12) = .agg hc := (hd 0 12 (by kernel_rfl))
            have e16 : a'.eval (.tmp 16) = .string sx := (hd 4 16 (by kernel_rfl))
            clear hd hq
            have h6 : l.getD 6 false = false := hcl 6 5 (by kernel_rfl) hn
            refine op_call #[.agg hc, .string sx] (wanted_free _ _ (by rfl)) rfl Try.func51 (by kernel_rfl) rfl (by simp [e12, e16]) ?_
            rw [EHC.out]
            refine (refNext_any hd sx w' HHL.out HXS.out).mono ?_
            rw [HXB.out, ← EH2.out, ← EHC2.out]
            rintro e w6 ⟨rfl, hb⟩
            have hI2 : HeadU wr w.heap.size 6 hd l w6 := ⟨hI.upd.below hb, Nat.lt_of_lt_of_le hI.lt hb.size, fun h => (hI.head h).below hb hI.lt⟩
            refine ⟨_, rfl, hK _ _ (hI2.set _) (fun j u => by match j with | 6 => exact fun h => Arr.below h hb hI.lt | 0 | 1 | 2 | 3 | 4 | 5 => exact fun h => h | _ + 7 => exact fun _ => trivial) rfl⟩
          · intro l a' w' K hI hcl hsz hn hd hq hK
            have e4 : a'.eval (.tmp 4) = .pointer (some ⟨w.heap.size, 0, none⟩) := (hq 4 (by kernel_rfl)).trans rfl
            have e17 : a'.eval (.tmp 17) = .agg hc2 := (hd 5 17 (by kernel_rfl))
            clear hd hq
            have hrow : w'.heap[w.heap.size]? = some (.cells hc 86) := by rw [EHC.out]; exact hI.head hn
            have hnew : Arr (w'.setRow w.heap.size hc2) w.heap.size 86 (bv h2) := by
              have h := setRow_heap w' w.heap.size _ hc2 _ _ hrow
              rw [EHC2.out] at h ⊢
              exact h
            have hI2 : HeadU wr w.heap.size 6 hd (l.setIfInBounds 6 true) (w'.setRow w.heap.size hc2) := ⟨upd_setRow hI.upd w.heap.size hc2 (fun _ => rfl), hnew.lt, fun h => by
              exfalso
              rw [Array.getD_eq_getD_getElem?, Array.getElem?_setIfInBounds, if_pos rfl, if_pos (by rw [hsz]; exact of_decide_eq_true (by kernel_rfl))] at h
              simp at h⟩
            refine op_do (wanted_free _ _ (by rfl)) ?_
            refine wp_store_row 86 _ _ rfl w.heap.size hc2 e4 e17 86 hc hrow HCZ2.out (by rw [HCS.out, HCS2.out]) HONE2.out ?_
            exact hK undef _ hI2 (fun j u => by match j with | 6 => exact fun _ => hnew | 0 | 1 | 2 | 3 | 4 | 5 => exact fun h => h | _ + 7 => exact fun _ => trivial) hnew
        case fin6 =>
          rintro l w' hsz hall hI _ rfl _ rfl _ rfl _ rfl _ rfl _ rfl _ hst6
          simp only [Act.put, List.setIfInBounds_toArray, List.set_cons_zero, List.set_cons_succ, FinGoal]
          go_wp2_with fail
          go_meet
          exact ⟨hst6, hI.upd⟩
      case rest =>
        obtain ⟨hA6, hU6⟩ := hcut
        have HA6 := Lib.hid hA6
        have HB6 := Lib.hid (below_upd HB.out HB.out.size hU6 (fun k hk => by rw [hk]; exact Nat.le_refl _))
        have HO6 := Lib.hid (show wc.ownsRow (w.heap.size + 1) 88 33 u3 T.length (lv (mkOf T)) by have h := own_upd HO.out hU6 (fun k hk e => by have := (World.ownsRow.lt HO.out k hk).1; omega); rwa [HTI.out] at h)
        have HST7 := Lib.hid (show ∀ W, Below w.heap.size w W → W.cell? ⟨bl, ol + i, none⟩ = some (.string sx) from fun W h => cell_below h (by rw [ESX.out]; exact K1.out))
        clear hA6 hU6
        go_upto_region 7 with fail
        refine region_byM (MkI w w.heap.size 8 h2 u3 T.length (lv (mkOf T))) [fun v _ => v = u3, (fun v _ => v = .slice (some ⟨bl, ol, none⟩) L.length c), (fun v _ => v = .int .i64 (i : Int)), (fun v _ => v = .pointer (some ⟨bl, ol + i, none⟩)), (fun v _ => v = .string sx), fun v _ => v = .agg hc2, fun v _ => v = .agg lc, fun v w' => ∃ gN, v = .slice (some ⟨gN, 0, none⟩) 1 1 ∧ RC w' (some ⟨gN, 0, none⟩) (lk (x, h2)) ∧ u3.ownBlock ≠ some gN ∧ w.heap.size + 1 ≤ w'.heap.size, fun v w' => w'.ownsRow (w.heap.size + 1) 88 33 v (T.length + 1) (lv (mkOf (T ++ [x]))), fun v w' => w'.ownsRow (w.heap.size + 1) 88 33 v (T.length + 1) (lv (mkOf (T ++ [x])))] (by kernel_rfl) (by kernel_rfl) (by kernel_rfl) rfl (⟨HB6.out.drew, HA6.out.drew, fun _ => HO6.out.drew⟩) ?ok7 ?fin7
        case ok7 =>
          refine ⟨?_, ?_, ?_, ?_, ?_, ?_, ?_, ?_, ?_, ?_, trivial⟩
          · intro l a' w' K hI hcl hsz hn hd hq hK
            have e3 : a'.eval (.tmp 3) = u3 := (hq 3 (by kernel_rfl)).trans rfl
            clear hd hq
            refine op_value (wanted_free _ _ (by rfl)) (v := u3) (w'' := w') ?_ (hK _ _ (hI.set _) (fun _ _ _ h => h) rfl)
            simp only [execOp, e3, Sem.run_pure]
          · intro l a' w' K hI hcl hsz hn hd hq hK
            have e0 : a'.eval (.tmp 0) = .slice (some ⟨bl, ol, none⟩) L.length c := (hq 0 (by kernel_rfl)).trans rfl
            clear hd hq hcl hsz hn
            refine op_value (wanted_free _ _ (by rfl)) (v := .slice (some ⟨bl, ol, none⟩) L.length c) (w'' := w') ?_ (hK _ _ (hI.set _) (fun _ _ _ h => h) rfl)
            clear hK
            simp only [execOp, e0]
            have f0 : a'.tmps[0]?.getD undef = .slice (some ⟨bl, ol, none⟩) L.length c := (Array.getD_eq_getD_getElem? ..).symm.trans e0
            clear e0
            first | rfl | (go_simp <;> exact IntWalk.i64_in _ (by omega))
          · intro l a' w' K hI hcl hsz hn hd hq hK
            have e5 : a'.eval (.tmp 5) = .int .i64 (i : Int) := (hq 5 (by kernel_rfl)).trans rfl
            clear hd hq hcl hsz hn
            refine op_value (wanted_free _ _ (by rfl)) (v := .int .i64 (i : Int)) (w'' := w') ?_ (hK _ _ (hI.set _) (fun _ _ _ h => h) rfl)
            clear hK
            simp only [execOp, e5]
            have f5 : a'.tmps[5]?.getD undef = .int .i64 (i : Int) := (Array.getD_eq_getD_getElem? ..).symm.trans e5
            clear e5
            first | rfl | (go_simp <;> exact IntWalk.i64_in _ (by omega))
          · intro l a' w' K hI hcl hsz hn hd hq hK
            have e19 : a'.eval (.tmp 19) = .slice (some ⟨bl, ol, none⟩) L.length c := (hd 1 19 (by kernel_rfl))
            have e20 : a'.eval (.tmp 20) = .int .i64 (i : Int) := (hd 2 20 (by kernel_rfl))
            clear hd hq hcl hsz hn
            refine op_value (wanted_free _ _ (by rfl)) (v := .pointer (some ⟨bl, ol + i, none⟩)) (w'' := w') ?_ (hK _ _ (hI.set _) (fun _ _ _ h => h) rfl)
            clear hK
            simp only [execOp, e19, e20]
            have f19 : a'.tmps[19]?.getD undef = .slice (some ⟨bl, ol, none⟩) L.length c := (Array.getD_eq_getD_getElem? ..).symm.trans e19
            have f20 : a'.tmps[20]?.getD undef = .int .i64 (i : Int) := (Array.getD_eq_getD_getElem? ..).symm.trans e20
            clear e19 e20
            first | rfl | (go_simp <;> exact IntWalk.i64_in _ (by omega))
          · intro l a' w' K hI hcl hsz hn hd hq hK
            have e21 : a'.eval (.tmp 21) = .pointer (some ⟨bl, ol + i, none⟩) := (hd 3 21 (by kernel_rfl))
            clear hd hq hcl hsz hn
            have hst := HST7.out w' hI.below
            refine op_value (wanted_free _ _ (by rfl)) (v := .string sx) (w'' := w') ?_ (hK _ _ (hI.set _) (fun _ _ _ h => h) rfl)
            clear hK
            simp only [execOp, e21]
            have f21 : a'.tmps[21]?.getD undef = .pointer (some ⟨bl, ol + i, none⟩) := (Array.getD_eq_getD_getElem? ..).symm.trans e21
            clear e21
            first | rfl | (go_simp <;> exact IntWalk.i64_in _ (by omega))
          · intro l a' w' K hI hcl hsz hn hd hq hK
            have e4 : a'.eval (.tmp 4) = .pointer (some ⟨w.heap.size, 0, none⟩) := (hq 4 (by kernel_rfl)).trans rfl
            clear hd hq
            have hrow : w'.heap[w.heap.size]? = some (.cells hc2 86) := by rw [EHC2.out]; exact hI.arr
            refine op_value (wanted_free _ _ (by rfl)) (v := .agg hc2) (w'' := w') ?_ (hK _ _ (hI.set _) (fun _ _ _ h => h) rfl)
            simp only [execOp, e4, Instr.loadAt, Instr.sureAddr, Sem.run_bind, Sem.run_pure, Result.andThen_ok, run_loadVar_row w' w.heap.size 86 86 hc2 (0, 0) _ hrow Try.underlying86 rfl HCZ2.out]
          · intro l a' w' K hI hcl hsz hn hd hq hK
            have e22 : a'.eval (.tmp 22) = .string sx := (hd 4 22 (by kernel_rfl))
            have e23 : a'.eval (.tmp 23) = .agg hc2 := (hd 5 23 (by kernel_rfl))
            clear hd hq
            refine op_do (wanted_free _ _ (by rfl)) ?_
            have hbt : Try.prog.built 88 ((#[(0, Operand.tmp 22), (1, Operand.tmp 23)] : Array (Nat × Operand)).map fun (i, x) => (i, a'.eval x)).toList = some lc := by simp only [List.map_toArray, List.map_cons, List.map_nil, e22, e23]; exact HF.out
            refine wp_build 88 _ rfl (by rw [hbt]; rfl) ?_
            rw [hbt]
            exact hK _ _ (hI.set _) (fun _ _ _ h => h) rfl
          · intro l a' w' K hI hcl hsz hn hd hq hK
            have e24 : a'.eval (.tmp 24) = .agg lc := (hd 6 24 (by kernel_rfl))
            clear hd hq
            have h8 : l.getD 8 false = false := hcl 8 7 (by kernel_rfl) hn
            have hb7 : Below w'.heap.size w' (w'.alloc (.cells lc 88)) := (Below.refl _ _).alloc (Nat.le_refl _) _
            have hlt := hI.arr.lt
            have h9 : l.getD 9 false = false := hcl 9 8 (by kernel_rfl) h8
            refine op_buildSlice (wanted_free _ _ (by rfl)) 65 88 1 _ rfl Try.underlying65 lc (by simp only [List.map_toArray, List.map_cons, List.map_nil, e24]; exact HF1.out) ?_
            refine hK _ _ ((hI.grow hb7).set _) (fun j u => by match j with | 7 => exact fun hl _ => absurd hl (by rw [hn]; decide) | 8 => exact fun hl _ => absurd hl (by rw [h8]; decide) | 9 => exact fun hl _ => absurd hl (by rw [h9]; decide) | 0 | 1 | 2 | 3 | 4 | 5 | 6 => exact fun _ h => h | _ + 10 => exact fun _ _ => trivial) ⟨w'.heap.size, rfl, by rw [ELC.out]; exact RC_newL w' (lk (x, h2)) _, fun e => ?_, by simp; omega⟩
            have := ((hI.own h8).lt _ e).2
            omega
          · intro l a' w' K hI hcl hsz hn hd hq hK
            have e18 : a'.eval (.tmp 18) = u3 := (hd 0 18 (by kernel_rfl))
            have e25 := hd 7 25 (by kernel_rfl)
            clear hd hq
            obtain ⟨gN, e25, hrc, hng, hsz1⟩ := (show ∃ gN, a'.eval (.tmp 25) = .slice (some ⟨gN, 0, none⟩) 1 1 ∧ RC w' (some ⟨gN, 0, none⟩) (lk (x, h2)) ∧ u3.ownBlock ≠ some gN ∧ w.heap.size + 1 ≤ w'.heap.size from e25)
            refine step_append_any rfl (.tmp 18) (.tmp 25) 65 rfl (w.heap.size + 1) 88 (.agg (lk ([], hd0)).toArray) 33 48 Try.underlying65 infoLkr (by kernel_rfl) (by omega) (by omega) u3 T.length (lv (mkOf T)) e18 (hI.own hn) (some ⟨gN, 0, none⟩) 1 1 (lk (x, h2)) e25 (by rw [HLK.out]) hrc (lk_one _) (by have := HTL.out; omega) hsz1 ?_
            intro v9 w9 ho9 hg9 hat9
            have hu9 : Upd (fun k => u3.ownBlock = some k) w' w9 := (Upd.refl _ w').grown hg9 (fun k hk _ => hk)
            have hbase : ∀ k, u3.ownBlock = some k → w.heap.size + 1 ≤ k := fun k hk => ((hI.own hn).lt k hk).1
            have hI2 : MkI w w.heap.size 8 h2 u3 T.length (lv (mkOf T)) (l.setIfInBounds 8 true) w9 := ⟨below_upd hI.below (by omega) hu9 (fun k hk => by have := hbase k hk; omega), hI.arr.upd hu9 (fun e => by have := hbase _ e; omega), fun h => by
              exfalso
              rw [Array.getD_eq_getD_getElem?, Array.getElem?_setIfInBounds, if_pos rfl, if_pos (by rw [hsz]; exact of_decide_eq_true (by kernel_rfl))] at h
              simp at h⟩
            have hres : w9.ownsRow (w.heap.size + 1) 88 33 v9 (T.length + 1) (lv (mkOf (T ++ [x]))) := by rw [HMS.out, lv_snoc]; exact ho9
            have h9 : l.getD 9 false = false := hcl 9 8 (by kernel_rfl) hn
            exact hK _ _ hI2 (fun j u => by match j with | 7 => exact fun _ ⟨gN, h1, h2, h3, h4⟩ => ⟨gN, h1, h2.upd hu9 (fun _ ad e => by cases e; exact h3), h3, Nat.le_trans h4 hu9.size⟩ | 8 => exact fun hl _ => absurd hl (by rw [hn]; decide) | 9 => exact fun hl _ => absurd hl (by rw [h9]; decide) | 0 | 1 | 2 | 3 | 4 | 5 | 6 => exact fun _ h => h | _ + 10 => exact fun _ _ => trivial) hres
          · intro l a' w' K hI hcl hsz hn hd hq hK
            have e26 := hd 8 26 (by kernel_rfl)
            clear hd hq
            refine op_value (wanted_free _ _ (by rfl)) (v := a'.eval (.tmp 26)) (w'' := w') ?_ (hK _ _ (hI.set _) (fun _ _ _ h => h) e26)
            simp only [execOp, Sem.run_pure]
        case fin7 =>
          rintro l w' hsz hall hI _ rfl _ rfl _ rfl _ rfl _ rfl _ rfl _ rfl _ ⟨gN, rfl, _⟩ _ hst8 v9 hst9
          simp only [Act.put, List.setIfInBounds_toArray, List.set_cons_zero, List.set_cons_succ, FinGoal]
          have HI := Lib.hid hI
          have HS9 := Lib.hid hst9
          clear hI hst9
          go_wp2_with fail
          go_roundg (L.length - (i + 1))
          case measure => have := HK.out; have := HLT.out; omega
          case rel => exact ⟨i + 1, _, HLT.out, rfl, by go_num, rfl, by rw [HT.out, HTI.out]; exact HS9.out, by rw [HT.out, headOf_snoc, ← EHD.out, ← EH2.out]; exact HI.out.arr, HI.out.below⟩
    · obtain rfl : i = L.length := by omega
      rw [List.take_length] at HO HA
      go_wp2_with fail
      go_ret
      exact ⟨_, rfl, own_lower HO.out (by omega), HB.out⟩

end Go.Proofs.Ytjakhemolecbnaa
end
