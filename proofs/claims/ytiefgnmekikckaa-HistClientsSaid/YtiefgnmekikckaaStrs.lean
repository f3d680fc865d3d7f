/-
  Strings as lists of bytes, rows of strings; and two replies held against each other (hist.Same).
-/
import Derived.Test.YtiefgnmekikckaaMem
import Derived.Test.YtiefgnmekikckaaOutline
import Derived.Deep.CutBlock
set_option linter.unusedVariables false
set_option linter.unusedSimpArgs false
namespace Go.Proofs.Ytiefgnmekikckaa
open Go.RowKit

theorem data_eq (s : ByteArray) : (⟨s.data.toList.toArray⟩ : ByteArray) = s := by
  cases s
  simp
def sv (l : List (List UInt8)) : List Value := l.map fun x => .string ⟨x.toArray⟩
theorem sv_append (l m : List (List UInt8)) : sv (l ++ m) = sv l ++ sv m := by simp [sv]
theorem sv_length (l : List (List UInt8)) : (sv l).length = l.length := by simp [sv]
theorem sv_one (l : List (List UInt8)) : ∀ u ∈ sv l, u.oneCell' = true := by
  intro u hu
  simp only [sv, List.mem_map] at hu
  obtain ⟨q, _, rfl⟩ := hu
  rfl
theorem infoS : (Try.prog.info? 9).map (fun i => (i.zero, i.size, i.bytes)) = some (some (.string ⟨#[]⟩), 1, 16) := by kernel_rfl
/-- A slice of strings that reads as L. -/
abbrev RS (w : World) (A : Option Addr) (L : List (List UInt8)) : Prop := RC w A (sv L)
theorem RC.parts {w : World} {A : Option Addr} {l : List Value} (h : RC w A l) (h0 : 0 < l.length) :
    ∃ b o, A = some ⟨b, o, none⟩ ∧ ∀ j u, l[j]? = some u → w.cell? ⟨b, o + j, none⟩ = some u := by
  obtain ⟨⟨b, o, sp⟩, e, hc⟩ := h h0
  have hsp : sp = none := by
    have := hc 0 _ (List.getElem?_eq_getElem h0)
    simp only [Addr.add, if_true] at this
    unfold World.cell? at this
    cases sp with
    | none => rfl
    | some s => simp at this; split at this <;> simp at this
  subst hsp
  refine ⟨b, o, e, fun j u hj => ?_⟩
  have := hc j u hj
  rwa [add_off] at this
/-- The string of bytes: unlike bytes, unlike strings. -/
def strB (l : List UInt8) : ByteArray := ⟨l.toArray⟩
theorem strB_inj {a b : List UInt8} (h : strB a = strB b) : a = b := by
  have := congrArg (fun x => x.data.toList) h
  simpa [strB] using this
theorem strB_data (s : ByteArray) : strB s.data.toList = s := data_eq s
theorem strB_size (l : List UInt8) : (strB l).size = l.length := by show l.toArray.size = _; simp
theorem strB_toList (l : List UInt8) : (strB l).data.toList = l := by simp [strB]
theorem sv_get' (L : List (List UInt8)) (i : Nat) (h : i < L.length) : (sv L)[i]? = some (.string (strB L[i])) := by simp [sv, strB, List.getElem?_eq_getElem h]

set_option maxHeartbeats 2000000 in
theorem eqStrs_any (A1 A2 : Option Addr) (n1 c1 n2 c2 : Nat) (L1 L2 : List (List UInt8)) (w : World) (hl1 : L1.length = n1) (hl2 : L2.length = n2) (hn : n1 ≤ 9000000000000000000) (hm : n2 ≤ 9000000000000000000) (h1 : RS w A1 L1) (h2 : RS w A2 L2) :
    Calls Try.prog 47 #[.slice A1 n1 c1, .slice A2 n2 c2] w fun e w' => e = .returned (.bool (decide (L1 = L2))) ∧ Below w.heap.size w w' := by
  subst hl1
  subst hl2
  obtain ⟨R, eR⟩ : ∃ R, R = decide (L1 = L2) := ⟨_, rfl⟩
  rw [← eR]
  have ER := Lib.hid eR
  clear eR
  have H1 := Lib.hid h1
  have H2 := Lib.hid h2
  clear h1 h2
  by_cases hll : L1.length = L2.length
  · have hlb : ((L1.length : Int) != (L2.length : Int)) = false := by simp [hll]
    have HLL := Lib.hid hll
    clear hll
    go_enter Try.func47, Try.ntmps47
    go_wp2_with fail
    go_loopg [13] L1.length (fun k s13 wr => ∃ i : Nat, i ≤ L1.length ∧ k = L1.length - i ∧ s13 = .int .i64 (i : Int) ∧ L1.take i = L2.take i ∧ Below w.heap.size w wr)
    case atStart => exact ⟨0, Nat.zero_le _, by omega, rfl, rfl, Below.refl _ _⟩
    case round =>
      obtain ⟨i, hi, hk, rfl, heq, hb⟩ := hrel
      have HK := Lib.hid hk
      have HB := Lib.hid hb
      have HEQ := Lib.hid heq
      clear hk hb heq
      by_cases hlt : i < L1.length
      · have hlt2 : i < L2.length := by have := HLL.out; omega
        obtain ⟨b1, o1, rfl, e1⟩ := H1.out.parts (by rw [sv_length]; omega)
        obtain ⟨b2, o2, rfl, e2⟩ := H2.out.parts (by rw [sv_length]; omega)
        have k1 := cell_below HB.out (e1 i _ (sv_get' L1 i hlt))
        have k2 := cell_below HB.out (e2 i _ (sv_get' L2 i hlt2))
        have t1 := List.take_succ_eq_append_getElem hlt
        have t2 := List.take_succ_eq_append_getElem hlt2
        by_cases hx : L1[i] = L2[i]
        · have HT := Lib.hid (show L1.take (i + 1) = L2.take (i + 1) by rw [t1, t2, HEQ.out, hx])
          rw [← hx] at k2
          generalize strB L1[i] = z at *
          clear e1 e2 t1 t2 hx
          have hi0 : (0 : Int) ≤ (i : Int) := by omega
          have hi1 : (i : Int) < (L1.length : Int) := by omega
          have hi2 : (i : Int) < (L2.length : Int) := by omega
          have HLT := Lib.hid hlt
          clear hi hlt hlt2
          go_upto_region 6 with fail
          go_region
          all_goals
            go_wp2_with fail
            go_roundg (L1.length - (i + 1))
            case measure => have := HK.out; have := HLT.out; omega
            case rel => exact ⟨i + 1, HLT.out, rfl, by go_num, HT.out, HB.out.drew⟩
        · have hz : ¬ (strB L1[i] = strB L2[i]) := fun h => hx (strB_inj h)
          have HRF := Lib.hid (show R = false by
            rw [ER.out, decide_eq_false_iff_not]
            intro h
            subst h
            exact hx rfl)
          generalize strB L1[i] = z1 at *
          generalize strB L2[i] = z2 at *
          clear e1 e2 t1 t2 hx
          have hi0 : (0 : Int) ≤ (i : Int) := by omega
          have hi1 : (i : Int) < (L1.length : Int) := by omega
          have hi2 : (i : Int) < (L2.length : Int) := by omega
          clear hi hlt hlt2
          have hzb : (z1.toList == z2.toList) = false := by
            rw [beq_eq_false_iff_ne, ByteArray.toList_eq, ByteArray.toList_eq]
            exact fun h => hz (by rw [← data_eq z1, ← data_eq z2, h])
          go_upto_region 6 with fail
          go_region
          all_goals
            go_wp2_with fail
            go_ret
            rw [HRF.out]
            exact ⟨rfl, HB.out.drew⟩
      · obtain rfl : i = L1.length := by omega
        have HRT := Lib.hid (show R = true by
          rw [ER.out, decide_eq_true_iff]
          have := HEQ.out
          rwa [List.take_length, HLL.out, List.take_length] at this)
        clear hlt hi
        go_wp2_with fail
        go_ret
        rw [HRT.out]
        exact ⟨rfl, HB.out⟩
  · have hlb : ((L1.length : Int) != (L2.length : Int)) = true := by simp; omega
    have HRF := Lib.hid (show R = false by
      rw [ER.out, decide_eq_false_iff_not]
      intro h
      exact hll (by rw [h]))
    clear hll
    go_enter Try.func47, Try.ntmps47
    go_wp2_with fail
    go_ret
    rw [HRF.out]
    exact ⟨rfl, Below.refl _ _⟩

/-- A reply's value. -/
def rep (o : Int) (A : Option Addr) (n c : Nat) (at_ why : Int) : Value := .agg #[.int .i64 o, .slice A n c, .int .i64 at_, .int .i64 why]

set_option maxRecDepth 100000 in
set_option maxHeartbeats 4000000 in
theorem same_any (o1 o2 t1 t2 y1 y2 : Int) (A1 A2 : Option Addr) (n1 c1 n2 c2 : Nat) (L1 L2 : List (List UInt8)) (w : World) (hl1 : L1.length = n1) (hl2 : L2.length = n2) (hn : n1 ≤ 9000000000000000000) (hm : n2 ≤ 9000000000000000000) (h1 : RS w A1 L1) (h2 : RS w A2 L2) :
    Calls Try.prog 37 #[rep o1 A1 n1 c1 t1 y1, rep o2 A2 n2 c2 t2 y2] w fun e w' => e = .returned (.bool (decide (o1 = o2 ∧ L1 = L2 ∧ t1 = t2 ∧ y1 = y2))) ∧ Below w.heap.size w w' := by
  unfold rep
  obtain ⟨R, eR⟩ : ∃ R, R = decide (o1 = o2 ∧ L1 = L2 ∧ t1 = t2 ∧ y1 = y2) := ⟨_, rfl⟩
  rw [← eR]
  have ER := Lib.hid eR
  clear eR
  obtain ⟨q, eq⟩ : ∃ q, q = decide (L1 = L2) := ⟨_, rfl⟩
  have EQ := Lib.hid eq
  have H1 := Lib.hid h1
  have H2 := Lib.hid h2
  clear eq h1 h2
  by_cases ho : o1 = o2
  · subst ho
    go_enter Try.func37, Try.ntmps37
    go_wp2_with fail
    refine (eqStrs_any A1 A2 n1 c1 n2 c2 L1 L2 _ hl1 hl2 hn hm ((H1.out.below ((Below.refl _ _).alloc (Nat.le_refl _) _)).below ((Below.refl _ _).alloc (Nat.le_refl _) _)) ((H2.out.below ((Below.refl _ _).alloc (Nat.le_refl _) _)).below ((Below.refl _ _).alloc (Nat.le_refl _) _))).mono ?_
    rw [← EQ.out]
    rintro e w2 ⟨rfl, hb⟩
    have b1 : w2.heap[w.heap.size]? = some (.cells #[.int .i64 o1, .slice A1 n1 c1, .int .i64 t1, .int .i64 y1] 63) := (hb.block _ (by simp; omega)).trans ((Below.heap_alloc _ _ _ (by simp)).trans (heap_alloc_new w _))
    have b2 : w2.heap[w.heap.size + 1]? = some (.cells #[.int .i64 o1, .slice A2 n2 c2, .int .i64 t2, .int .i64 y2] 63) := (hb.block _ (by simp)).trans (by
      have h := heap_alloc_new (w.alloc (.cells #[.int .i64 o1, .slice A1 n1 c1, .int .i64 t1, .int .i64 y1] 63)) (.cells #[.int .i64 o1, .slice A2 n2 c2, .int .i64 t2, .int .i64 y2] 63)
      simpa using h)
    have k12 : w2.cell? ⟨w.heap.size, 2, none⟩ = some (.int .i64 t1) := (cell_of_row w2 _ 2 _ _ _ b1).trans rfl
    have k13 : w2.cell? ⟨w.heap.size, 3, none⟩ = some (.int .i64 y1) := (cell_of_row w2 _ 3 _ _ _ b1).trans rfl
    have k22 : w2.cell? ⟨w.heap.size + 1, 2, none⟩ = some (.int .i64 t2) := (cell_of_row w2 _ 2 _ _ _ b2).trans rfl
    have k23 : w2.cell? ⟨w.heap.size + 1, 3, none⟩ = some (.int .i64 y2) := (cell_of_row w2 _ 3 _ _ _ b2).trans rfl
    have B2 := Lib.hid (show Below w.heap.size w w2 from below_below (((Below.refl _ _).alloc (Nat.le_refl _) _).alloc (by simp) _) (by simp; omega) hb)
    clear hb b1 b2
    cases hq : q with
    | false =>
      subst hq
      have hL : ¬ L1 = L2 := of_decide_eq_false EQ.out.symm
      have hR := Lib.hid (show R = false by rw [ER.out]; simp [hL])
      clear hL
      go_wp2_with fail
      go_ret
      rw [hR.out]
      exact ⟨rfl, B2.out⟩
    | true =>
      subst hq
      have hL : L1 = L2 := of_decide_eq_true EQ.out.symm
      by_cases ht : t1 = t2
      · subst ht
        by_cases hy : y1 = y2
        · subst hy
          have hR := Lib.hid (show R = true by rw [ER.out]; simp [hL])
          clear hL
          go_wp2_with fail
          go_ret
          rw [hR.out]
          exact ⟨by first | rfl | simp, B2.out⟩
        · have hR := Lib.hid (show R = false by rw [ER.out]; simp [hy])
          have hyb : (y1 == y2) = false := by rw [beq_eq_false_iff_ne]; exact hy
          clear hL
          go_wp2_with fail
          go_ret
          rw [hR.out]
          exact ⟨by first | rfl | simp [hy], B2.out⟩
      · have hR := Lib.hid (show R = false by rw [ER.out]; simp [ht])
        have htb : (t1 == t2) = false := by rw [beq_eq_false_iff_ne]; exact ht
        clear hL
        go_wp2_with fail
        go_ret
        rw [hR.out]
        exact ⟨by first | rfl | simp [ht], B2.out⟩
  · have hob : (o1 == o2) = false := by rw [beq_eq_false_iff_ne]; exact ho
    have hR := Lib.hid (show R = false by rw [ER.out]; simp [ho])
    go_enter Try.func37, Try.ntmps37
    go_wp2_with fail
    go_ret
    rw [hR.out]
    exact ⟨by first | rfl | simp [ho], (((Below.refl _ _).alloc (Nat.le_refl _) _).alloc (by simp) _)⟩

end Go.Proofs.Ytiefgnmekikckaa
