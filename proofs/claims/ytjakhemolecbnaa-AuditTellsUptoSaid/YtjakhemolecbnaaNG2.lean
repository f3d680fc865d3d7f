/-
  The texts Within, Tame, SameI of this proof in one (what is used of them): what each proves is said at its head. No conditions beyond those that each theorem says.
-/
import Derived.Test.YtjakhemolecbnaaNA
import Derived.Test.YtjakhemolecbnaaNE2

/-
  The walk of conclavebook.Within: a number brought into lo .. hi.
-/
section
set_option linter.unusedVariables false
set_option linter.unusedSimpArgs false
namespace Go.Proofs.Ytjakhemolecbnaa
open Go.RowKit

/-- What Within gives. -/
def withinOf (n lo hi : Int) : Int := lo + n % (hi - lo + 1)
theorem withinOf_range (n lo hi : Int) (h : lo ≤ hi) : lo ≤ withinOf n lo hi ∧ withinOf n lo hi ≤ hi := by
  unfold withinOf
  have h1 := Int.emod_nonneg n (show hi - lo + 1 ≠ 0 by omega)
  have h2 := Int.emod_lt_of_pos n (show 0 < hi - lo + 1 by omega)
  omega
theorem tmod_neg_fix (n m : Int) (hm : 0 < m) (h : n.tmod m < 0) : n.tmod m + m = n % m := by
  have h1 := Int.emod_nonneg n (show m ≠ 0 by omega)
  have h2 := Int.emod_lt_of_pos n hm
  have e1 := Int.emod_add_mul_ediv n m
  have e2 := Int.tmod_add_mul_tdiv n m
  have h3 : -m < n.tmod m := by
    have := Int.lt_tmod_of_pos n hm
    exact this
  have e3 : n % m - n.tmod m = m * (n.tdiv m - n / m) := by rw [Int.mul_sub]; omega
  have e4 : n.tdiv m - n / m = 1 := by
    generalize n.tdiv m - n / m = q at e3
    by_cases hq : q ≤ 0
    · have : m * q ≤ 0 := Int.mul_nonpos_of_nonneg_of_nonpos (by omega) hq
      omega
    · by_cases hq2 : 2 ≤ q
      · have : m * 2 ≤ m * q := Int.mul_le_mul_of_nonneg_left hq2 (by omega)
        omega
      · omega
  rw [e4] at e3
  omega
theorem tmod_pos_fix (n m : Int) (hm : 0 < m) (h : ¬ n.tmod m < 0) : n.tmod m = n % m := by
  have e := Int.tmod_eq_emod (a := n) (b := m)
  have h1 := Int.emod_lt_of_pos n hm
  have h2 : ((m.natAbs : Nat) : Int) = m := Int.natAbs_of_nonneg (by omega)
  split at e
  · omega
  · omega
theorem tmod_range (n m : Int) (hm : 0 < m) : -m < n.tmod m ∧ n.tmod m < m := by
  exact ⟨Int.lt_tmod_of_pos n hm, Int.tmod_lt_of_pos n hm⟩

set_option maxHeartbeats 1000000 in
theorem within_any (n lo hi : Int) (w : World) (h1 : lo ≤ hi) (h0 : -4611686018427387904 ≤ lo) (h2 : hi ≤ 4611686018427387000) (hd : hi - lo ≤ 4611686018427387000) :
    Calls Try.prog 18 #[.int .i64 n, .int .i64 lo, .int .i64 hi] w fun e w' => e = .returned (.int .i64 (withinOf n lo hi)) ∧ w = w' := by
  have hr := tmod_range n (hi - lo + 1) (by omega)
  have hp : (0 : Int) < hi - lo + 1 := by omega
  by_cases h : n.tmod (hi - lo + 1) < 0
  · have H := Lib.hid (tmod_neg_fix n (hi - lo + 1) (by omega) h)
    go_enter Try.func18, Try.ntmps18
    go_wp2
    go_ret
    exact ⟨ret_int (by unfold withinOf; rw [← H.out]; omega), rfl⟩
  · have H := Lib.hid (tmod_pos_fix n (hi - lo + 1) (by omega) h)
    go_enter Try.func18, Try.ntmps18
    go_wp2
    go_ret
    exact ⟨ret_int (by unfold withinOf; rw [← H.out]), rfl⟩

end Go.Proofs.Ytjakhemolecbnaa
end

/-
  The walk of the law's tame.
-/
section
set_option linter.unusedVariables false
set_option linter.unusedSimpArgs false
namespace Go.Proofs.Ytjakhemolecbnaa
open Go.RowKit

def grpT (j : Int) : List Int := if j = 0 then [0, 1] else if j = 1 then [0] else [0, 1, 2]
/-- A record of few transactions. -/
def tameS (k lt lb : Int) : Rp := ⟨1 + withinOf k 0 3, if 1 + withinOf k 0 3 = 1 then [] else if withinOf lt 0 1 = 0 then [116] else [117], grpT (withinOf lb 0 2), []⟩

theorem heap_next {w W : World} {n : Nat} (h : W.heap.size = w.heap.size + n) (o : Obj) : (W.alloc o).heap[w.heap.size + n]? = some o ∧ (W.alloc o).heap.size = w.heap.size + (n + 1) := by
  constructor
  · rw [← h]
    exact heap_alloc_new W o
  · show (W.heap.push o).size = _
    simp [h]
    omega
theorem chain7 (w : World) (o1 o2 o3 o4 o5 o6 o7 : Obj) (W : World) (hW : W = (((((((w.alloc o1).alloc o2).alloc o3).alloc o4).alloc o5).alloc o6).alloc o7)) :
    W.heap[w.heap.size + 1]? = some o2 ∧ W.heap[w.heap.size + 3]? = some o4 ∧ W.heap[w.heap.size + 4]? = some o5 ∧ W.heap[w.heap.size + 5]? = some o6 ∧ W.heap.size = w.heap.size + 7 ∧ Below w.heap.size w W := by
  have h1 := heap_next (w := w) (W := w) (n := 0) rfl o1
  have h2 := heap_next h1.2 o2
  have h3 := heap_next h2.2 o3
  have h4 := heap_next h3.2 o4
  have h5 := heap_next h4.2 o5
  have h6 := heap_next h5.2 o6
  have h7 := heap_next h6.2 o7
  have b1 : Below w.heap.size w (w.alloc o1) := (Below.refl _ _).alloc (Nat.le_refl _) _
  have b2 := b1.alloc b1.size o2
  have b3 := b2.alloc b2.size o3
  have b4 := b3.alloc b3.size o4
  have b5 := b4.alloc b4.size o5
  have b6 := b5.alloc b5.size o6
  have b7 := b6.alloc b6.size o7
  subst hW
  have k : ∀ {V : World} {j : Nat} {x : Obj} (o : Obj), V.heap[j]? = some x → (V.alloc o).heap[j]? = some x := fun o h => (Below.heap_alloc _ _ _ (Array.getElem?_eq_some_iff.1 h).1).trans h
  exact ⟨k _ (k _ (k _ (k _ (k _ h2.1)))), k _ (k _ (k _ h4.1)), k _ (k _ h5.1), k _ h6.1, h7.2, b7⟩
theorem RG_row {W : World} {g : Nat} (zs : List Int) (e : TypeId) (h : W.heap[g]? = some (.cells (zs.map (Value.int .i64)).toArray e (0, 0))) : RG W (some ⟨g, 0, none⟩) zs := by
  intro h0
  refine ⟨_, rfl, fun j u hj => ?_⟩
  rw [add_off, Nat.zero_add, cell_of_row W g j _ _ _ h, List.getElem?_toArray]
  exact hj

set_option maxRecDepth 100000 in
set_option maxHeartbeats 8000000 in
theorem tame_any (k : Int) (tx bd : ByteArray) (A : Option Addr) (n c : Nat) (w : World) (ht : tx.size ≤ 9000000000000000000) (hb : bd.size ≤ 9000000000000000000) :
    Calls Try.prog 17 #[.agg #[.int .i64 k, .string tx, .slice A n c, .string bd]] w fun e w' => ∃ A' c', e = .returned (.agg ((tameS k tx.size bd.size).m A' c').cells.toArray) ∧ Below w.heap.size w w' ∧ RG w' A' (tameS k tx.size bd.size).groups ∧ ∀ ad, A' = some ad → w.heap.size ≤ ad.block ∧ ad.block < w'.heap.size := by
  have hr3 := withinOf_range k 0 3 (by omega)
  have hr1 := withinOf_range (tx.size : Int) 0 1 (by omega)
  have hr2 := withinOf_range (bd.size : Int) 0 2 (by omega)
  unfold tameS
  obtain ⟨v3, hv3⟩ : ∃ v3, v3 = withinOf k 0 3 := ⟨_, rfl⟩
  obtain ⟨v1, hv1⟩ : ∃ v1, v1 = withinOf (tx.size : Int) 0 1 := ⟨_, rfl⟩
  obtain ⟨v2, hv2⟩ : ∃ v2, v2 = withinOf (bd.size : Int) 0 2 := ⟨_, rfl⟩
  rw [← hv3] at hr3 ⊢
  rw [← hv1] at hr1 ⊢
  rw [← hv2] at hr2 ⊢
  have HV1 := Lib.hid hv1
  have HV2 := Lib.hid hv2
  have HV3 := Lib.hid hv3
  clear hv1 hv2 hv3
  go_enter Try.func17, Try.ntmps17
  go_wp2_with fail
  refine (within_any k 0 3 _ (by omega) (by omega) (by omega) (by omega)).mono ?_
  rw [← HV3.out]
  rintro e w3 ⟨rfl, rfl⟩
  go_wp2_with fail
  refine (within_any tx.size 0 1 _ (by omega) (by omega) (by omega) (by omega)).mono ?_
  rw [← HV1.out]
  rintro e w4 ⟨rfl, rfl⟩
  obtain rfl | rfl : v1 = 0 ∨ v1 = 1 := by omega
  · obtain rfl | h1 : v3 = 0 ∨ 1 ≤ v3 := by omega
    · go_wp2_with fail
      refine (within_any bd.size 0 2 _ (by omega) (by omega) (by omega) (by omega)).mono ?_
      rw [← HV2.out]
      rintro e w5 ⟨rfl, rfl⟩
      obtain rfl | rfl | rfl : v2 = 0 ∨ v2 = 1 ∨ v2 = 2 := by omega
      · go_wp2_with fail
        generalize hW : (World.alloc (World.alloc (World.alloc (World.alloc (World.alloc (World.alloc (World.alloc w _) _) _) _) _) _) _) = W
        obtain ⟨c2, c4, c5, c6, cs, cb⟩ := chain7 w _ _ _ _ _ _ _ W hW.symm
        refine bodyPost_ret (v := .agg #[.int .i64 1, .string ⟨#[]⟩, .slice (some ⟨w.heap.size + 1 + 1 + 1, 0, none⟩) 2 2, .string ⟨#[]⟩]) ?_ rfl ?_
        · exact results_cell_row rfl _ _ (w.heap.size + 1) 24 _ (0, 0) _ rfl c2 Try.underlying24 rfl infoRec
        · exact ⟨some ⟨w.heap.size + 1 + 1 + 1, 0, none⟩, ⟨2, rfl⟩, cb, RG_row _ 3 c4, fun ad e => by cases e; constructor <;> simp only [] <;> omega⟩
      · go_wp2_with fail
        generalize hW : (World.alloc (World.alloc (World.alloc (World.alloc (World.alloc (World.alloc (World.alloc w _) _) _) _) _) _) _) = W
        obtain ⟨c2, c4, c5, c6, cs, cb⟩ := chain7 w _ _ _ _ _ _ _ W hW.symm
        refine bodyPost_ret (v := .agg #[.int .i64 1, .string ⟨#[]⟩, .slice (some ⟨w.heap.size + 1 + 1 + 1 + 1, 0, none⟩) 1 1, .string ⟨#[]⟩]) ?_ rfl ?_
        · exact results_cell_row rfl _ _ (w.heap.size + 1) 24 _ (0, 0) _ rfl c2 Try.underlying24 rfl infoRec
        · exact ⟨some ⟨w.heap.size + 1 + 1 + 1 + 1, 0, none⟩, ⟨1, rfl⟩, cb, RG_row _ 3 c5, fun ad e => by cases e; constructor <;> simp only [] <;> omega⟩
      · go_wp2_with fail
        generalize hW : (World.alloc (World.alloc (World.alloc (World.alloc (World.alloc (World.alloc (World.alloc w _) _) _) _) _) _) _) = W
        obtain ⟨c2, c4, c5, c6, cs, cb⟩ := chain7 w _ _ _ _ _ _ _ W hW.symm
        refine bodyPost_ret (v := .agg #[.int .i64 1, .string ⟨#[]⟩, .slice (some ⟨w.heap.size + 1 + 1 + 1 + 1 + 1, 0, none⟩) 3 3, .string ⟨#[]⟩]) ?_ rfl ?_
        · exact results_cell_row rfl _ _ (w.heap.size + 1) 24 _ (0, 0) _ rfl c2 Try.underlying24 rfl infoRec
        · exact ⟨some ⟨w.heap.size + 1 + 1 + 1 + 1 + 1, 0, none⟩, ⟨3, rfl⟩, cb, RG_row _ 3 c6, fun ad e => by cases e; constructor <;> simp only [] <;> omega⟩
    · have h2 : (1 + v3 == 1) = false := by simp; omega
      go_wp2_with fail
      refine (within_any bd.size 0 2 _ (by omega) (by omega) (by omega) (by omega)).mono ?_
      rw [← HV2.out]
      rintro e w5 ⟨rfl, rfl⟩
      obtain rfl | rfl | rfl : v2 = 0 ∨ v2 = 1 ∨ v2 = 2 := by omega
      · go_wp2_with fail
        generalize hW : (World.alloc (World.alloc (World.alloc (World.alloc (World.alloc (World.alloc (World.alloc w _) _) _) _) _) _) _) = W
        obtain ⟨c2, c4, c5, c6, cs, cb⟩ := chain7 w _ _ _ _ _ _ _ W hW.symm
        refine bodyPost_ret (v := .agg #[.int .i64 (1 + v3), .string ⟨#[116]⟩, .slice (some ⟨w.heap.size + 1 + 1 + 1, 0, none⟩) 2 2, .string ⟨#[]⟩]) ?_ rfl ?_
        · exact results_cell_row rfl _ _ (w.heap.size + 1) 24 _ (0, 0) _ rfl c2 Try.underlying24 rfl infoRec
        · exact ⟨some ⟨w.heap.size + 1 + 1 + 1, 0, none⟩, ⟨2, rfl⟩, cb, RG_row _ 3 c4, fun ad e => by cases e; constructor <;> simp only [] <;> omega⟩
      · go_wp2_with fail
        generalize hW : (World.alloc (World.alloc (World.alloc (World.alloc (World.alloc (World.alloc (World.alloc w _) _) _) _) _) _) _) = W
        obtain ⟨c2, c4, c5, c6, cs, cb⟩ := chain7 w _ _ _ _ _ _ _ W hW.symm
        refine bodyPost_ret (v := .agg #[.int .i64 (1 + v3), .string ⟨#[116]⟩, .slice (some ⟨w.heap.size + 1 + 1 + 1 + 1, 0, none⟩) 1 1, .string ⟨#[]⟩]) ?_ rfl ?_
        · exact results_cell_row rfl _ _ (w.heap.size + 1) 24 _ (0, 0) _ rfl c2 Try.underlying24 rfl infoRec
        · exact ⟨some ⟨w.heap.size + 1 + 1 + 1 + 1, 0, none⟩, ⟨1, rfl⟩, cb, RG_row _ 3 c5, fun ad e => by cases e; constructor <;> simp only [] <;> omega⟩
      · go_wp2_with fail
        generalize hW : (World.alloc (World.alloc (World.alloc (World.alloc (World.alloc (World.alloc (World.alloc w _) _) _) _) _) _) _) = W
        obtain ⟨c2, c4, c5, c6, cs, cb⟩ := chain7 w _ _ _ _ _ _ _ W hW.symm
        refine bodyPost_ret (v := .agg #[.int .i64 (1 + v3), .string ⟨#[116]⟩, .slice (some ⟨w.heap.size + 1 + 1 + 1 + 1 + 1, 0, none⟩) 3 3, .string ⟨#[]⟩]) ?_ rfl ?_
        · exact results_cell_row rfl _ _ (w.heap.size + 1) 24 _ (0, 0) _ rfl c2 Try.underlying24 rfl infoRec
        · exact ⟨some ⟨w.heap.size + 1 + 1 + 1 + 1 + 1, 0, none⟩, ⟨3, rfl⟩, cb, RG_row _ 3 c6, fun ad e => by cases e; constructor <;> simp only [] <;> omega⟩
  · obtain rfl | h1 : v3 = 0 ∨ 1 ≤ v3 := by omega
    · go_wp2_with fail
      refine (within_any bd.size 0 2 _ (by omega) (by omega) (by omega) (by omega)).mono ?_
      rw [← HV2.out]
      rintro e w5 ⟨rfl, rfl⟩
      obtain rfl | rfl | rfl : v2 = 0 ∨ v2 = 1 ∨ v2 = 2 := by omega
      · go_wp2_with fail
        generalize hW : (World.alloc (World.alloc (World.alloc (World.alloc (World.alloc (World.alloc (World.alloc w _) _) _) _) _) _) _) = W
        obtain ⟨c2, c4, c5, c6, cs, cb⟩ := chain7 w _ _ _ _ _ _ _ W hW.symm
        refine bodyPost_ret (v := .agg #[.int .i64 1, .string ⟨#[]⟩, .slice (some ⟨w.heap.size + 1 + 1 + 1, 0, none⟩) 2 2, .string ⟨#[]⟩]) ?_ rfl ?_
        · exact results_cell_row rfl _ _ (w.heap.size + 1) 24 _ (0, 0) _ rfl c2 Try.underlying24 rfl infoRec
        · exact ⟨some ⟨w.heap.size + 1 + 1 + 1, 0, none⟩, ⟨2, rfl⟩, cb, RG_row _ 3 c4, fun ad e => by cases e; constructor <;> simp only [] <;> omega⟩
      · go_wp2_with fail
        generalize hW : (World.alloc (World.alloc (World.alloc (World.alloc (World.alloc (World.alloc (World.alloc w _) _) _) _) _) _) _) = W
        obtain ⟨c2, c4, c5, c6, cs, cb⟩ := chain7 w _ _ _ _ _ _ _ W hW.symm
        refine bodyPost_ret (v := .agg #[.int .i64 1, .string ⟨#[]⟩, .slice (some ⟨w.heap.size + 1 + 1 + 1 + 1, 0, none⟩) 1 1, .string ⟨#[]⟩]) ?_ rfl ?_
        · exact results_cell_row rfl _ _ (w.heap.size + 1) 24 _ (0, 0) _ rfl c2 Try.underlying24 rfl infoRec
        · exact ⟨some ⟨w.heap.size + 1 + 1 + 1 + 1, 0, none⟩, ⟨1, rfl⟩, cb, RG_row _ 3 c5, fun ad e => by cases e; constructor <;> simp only [] <;> omega⟩
      · go_wp2_with fail
        generalize hW : (World.alloc (World.alloc (World.alloc (World.alloc (World.alloc (World.alloc (World.alloc w _) _) _) _) _) _) _) = W
        obtain ⟨c2, c4, c5, c6, cs, cb⟩ := chain7 w _ _ _ _ _ _ _ W hW.symm
        refine bodyPost_ret (v := .agg #[.int .i64 1, .string ⟨#[]⟩, .slice (some ⟨w.heap.size + 1 + 1 + 1 + 1 + 1, 0, none⟩) 3 3, .string ⟨#[]⟩]) ?_ rfl ?_
        · exact results_cell_row rfl _ _ (w.heap.size + 1) 24 _ (0, 0) _ rfl c2 Try.underlying24 rfl infoRec
        · exact ⟨some ⟨w.heap.size + 1 + 1 + 1 + 1 + 1, 0, none⟩, ⟨3, rfl⟩, cb, RG_row _ 3 c6, fun ad e => by cases e; constructor <;> simp only [] <;> omega⟩
    · have h2 : (1 + v3 == 1) = false := by simp; omega
      go_wp2_with fail
      refine (within_any bd.size 0 2 _ (by omega) (by omega) (by omega) (by omega)).mono ?_
      rw [← HV2.out]
      rintro e w5 ⟨rfl, rfl⟩
      obtain rfl | rfl | rfl : v2 = 0 ∨ v2 = 1 ∨ v2 = 2 := by omega
      · go_wp2_with fail
        generalize hW : (World.alloc (World.alloc (World.alloc (World.alloc (World.alloc (World.alloc (World.alloc w _) _) _) _) _) _) _) = W
        obtain ⟨c2, c4, c5, c6, cs, cb⟩ := chain7 w _ _ _ _ _ _ _ W hW.symm
        refine bodyPost_ret (v := .agg #[.int .i64 (1 + v3), .string ⟨#[117]⟩, .slice (some ⟨w.heap.size + 1 + 1 + 1, 0, none⟩) 2 2, .string ⟨#[]⟩]) ?_ rfl ?_
        · exact results_cell_row rfl _ _ (w.heap.size + 1) 24 _ (0, 0) _ rfl c2 Try.underlying24 rfl infoRec
        · exact ⟨some ⟨w.heap.size + 1 + 1 + 1, 0, none⟩, ⟨2, rfl⟩, cb, RG_row _ 3 c4, fun ad e => by cases e; constructor <;> simp only [] <;> omega⟩
      · go_wp2_with fail
        generalize hW : (World.alloc (World.alloc (World.alloc (World.alloc (World.alloc (World.alloc (World.alloc w _) _) _) _) _) _) _) = W
        obtain ⟨c2, c4, c5, c6, cs, cb⟩ := chain7 w _ _ _ _ _ _ _ W hW.symm
        refine bodyPost_ret (v := .agg #[.int .i64 (1 + v3), .string ⟨#[117]⟩, .slice (some ⟨w.heap.size + 1 + 1 + 1 + 1, 0, none⟩) 1 1, .string ⟨#[]⟩]) ?_ rfl ?_
        · exact results_cell_row rfl _ _ (w.heap.size + 1) 24 _ (0, 0) _ rfl c2 Try.underlying24 rfl infoRec
        · exact ⟨some ⟨w.heap.size + 1 + 1 + 1 + 1, 0, none⟩, ⟨1, rfl⟩, cb, RG_row _ 3 c5, fun ad e => by cases e; constructor <;> simp only [] <;> omega⟩
      · go_wp2_with fail
        generalize hW : (World.alloc (World.alloc (World.alloc (World.alloc (World.alloc (World.alloc (World.alloc w _) _) _) _) _) _) _) = W
        obtain ⟨c2, c4, c5, c6, cs, cb⟩ := chain7 w _ _ _ _ _ _ _ W hW.symm
        refine bodyPost_ret (v := .agg #[.int .i64 (1 + v3), .string ⟨#[117]⟩, .slice (some ⟨w.heap.size + 1 + 1 + 1 + 1 + 1, 0, none⟩) 3 3, .string ⟨#[]⟩]) ?_ rfl ?_
        · exact results_cell_row rfl _ _ (w.heap.size + 1) 24 _ (0, 0) _ rfl c2 Try.underlying24 rfl infoRec
        · exact ⟨some ⟨w.heap.size + 1 + 1 + 1 + 1 + 1, 0, none⟩, ⟨3, rfl⟩, cb, RG_row _ 3 c6, fun ad e => by cases e; constructor <;> simp only [] <;> omega⟩
end Go.Proofs.Ytjakhemolecbnaa
end

/-
  The walk of the book's Same on ints.
-/
section
set_option linter.unusedVariables false
set_option linter.unusedSimpArgs false
namespace Go.Proofs.Ytjakhemolecbnaa
open Go.RowKit

set_option maxHeartbeats 2000000 in
theorem sameI_any (A1 A2 : Option Addr) (n1 n2 c1 c2 : Nat) (z1 z2 : List Int) (w : World) (hl1 : z1.length = n1) (hl2 : z2.length = n2) (hn : n1 ≤ 100000000) (hr1 : RG w A1 z1) (hr2 : RG w A2 z2) :
    Calls Try.prog 13 #[.slice A1 n1 c1, .slice A2 n2 c2] w fun e w' => e = .returned (.bool (decide (z1 = z2))) ∧ Below w.heap.size w w' := by
  subst hl1
  subst hl2
  have H1 := Lib.hid hr1
  have H2 := Lib.hid hr2
  clear hr1 hr2
  by_cases hll : z1.length = z2.length
  · obtain ⟨R, eR⟩ : ∃ R, R = decide (z1 = z2) := ⟨_, rfl⟩
    rw [← eR]
    have ER := Lib.hid eR
    have HLL := Lib.hid hll
    rw [← hll]
    clear eR hll
    go_enter Try.func13, Try.ntmps13
    go_wp2_with fail
    go_loopg [5] z1.length (fun k s5 wr => ∃ i : Nat, i ≤ z1.length ∧ k = z1.length - i ∧ s5 = .int .i64 (i : Int) ∧ (∀ j, j < i → z1[j]? = z2[j]?) ∧ Below w.heap.size w wr)
    case atStart => exact ⟨0, Nat.zero_le _, by omega, rfl, fun j hj => absurd hj (Nat.not_lt_zero _), Below.refl _ _⟩
    case round =>
      obtain ⟨i, hi, hk, rfl, hz, hb⟩ := hrel
      have HK := Lib.hid hk
      have HZ := Lib.hid hz
      have HB := Lib.hid hb
      clear hk hz hb
      by_cases hlt : i < z1.length
      · have hlt2 : i < z2.length := by rw [← HLL.out]; exact hlt
        obtain ⟨b1, o1, rfl, hc1⟩ := H1.out.part (by omega)
        obtain ⟨b2, o2, rfl, hc2⟩ := H2.out.part (by omega)
        have k1 := cell_below HB.out (hc1 i hlt)
        have k2 := cell_below HB.out (hc2 i hlt2)
        have g1 := Lib.hid (show z1[i]? = some z1[i] from List.getElem?_eq_getElem hlt)
        have g2 := Lib.hid (show z2[i]? = some z2[i] from List.getElem?_eq_getElem hlt2)
        generalize z1[i] = x1 at *
        generalize z2[i] = x2 at *
        have HLT := Lib.hid hlt
        have i0 : (0 : Int) ≤ (i : Int) := by omega
        have i1 : (i : Int) < (z1.length : Int) := by omega
        clear hc1 hc2 hi hlt2
        by_cases hx : x1 = x2
        · subst hx
          go_wp2_with fail
          go_region
          all_goals
            go_wp2_with fail
            go_roundg (z1.length - (i + 1))
            case measure => have := HK.out; have := HLT.out; omega
            case rel =>
              refine ⟨i + 1, HLT.out, rfl, by go_num, fun j hj => ?_, HB.out.drew⟩
              by_cases h : j = i
              · rw [h, g1.out, g2.out]
              · exact HZ.out j (by omega)
        · have hx1 : (x1 != x2) = true := by simpa using hx
          have HX := Lib.hid hx
          clear hx
          go_wp2_with fail
          go_region
          all_goals
            go_wp2_with fail
            go_ret
            refine ⟨ret_bool ?_, HB.out.drew⟩
            rw [ER.out]
            refine (decide_eq_false fun e => HX.out ?_).symm
            have h1 := g1.out
            rw [e, g2.out] at h1
            exact (Option.some.inj h1).symm
      · obtain rfl : i = z1.length := by omega
        go_wp2_with fail
        go_ret
        refine ⟨ret_bool ?_, HB.out⟩
        rw [ER.out]
        refine (decide_eq_true (List.ext_getElem? fun j => ?_)).symm
        by_cases h : j < z1.length
        · exact HZ.out j h
        · rw [List.getElem?_eq_none (by omega), List.getElem?_eq_none (by rw [← HLL.out]; omega)]
  · have hd : decide (z1 = z2) = false := decide_eq_false fun e => hll (by rw [e])
    rw [hd]
    have hne : ((z1.length : Int) != (z2.length : Int)) = true := by simp; omega
    clear hd hll
    go_enter Try.func13, Try.ntmps13
    go_wp2_with fail
    go_ret
    exact ⟨rfl, Below.refl _ _⟩
end Go.Proofs.Ytjakhemolecbnaa
end
