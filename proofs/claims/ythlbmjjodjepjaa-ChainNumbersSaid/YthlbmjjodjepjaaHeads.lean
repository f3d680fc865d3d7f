/-
  Two heads that are unlike.
-/
import Derived.Test.YthlbmjjodjepjaaChainDecodeG
set_option linter.unusedVariables false
set_option linter.unusedSimpArgs false
namespace Go.Proofs.Ythlbmjjodjepjaa
open Go.RowKit

theorem heads_ne : headOf [[97], [98]] ≠ headOf [[97], [120]] := by decide +kernel
theorem L3_eq : mkOf [[97], [98], [99]] = [([97], headOf [[97]]), ([98], headOf [[97], [98]]), ([99], headOf [[97], [98], [99]])] := by
  simp [mkOf, List.range, List.range.loop]
theorem posOf_one (a h1 : List UInt8) (r : List (List UInt8 × List UInt8)) (hh : h1.length = 32) : posOf ((a, h1) :: r) 1 = 40 + a.length := by
  unfold posOf
  simp only [List.take_succ_cons, List.take_zero, encL, List.flatMap_cons, List.flatMap_nil, List.length_append, be4n_length, hh, List.length_nil]
  omega
theorem check_b (h1 h2 h3 : List UInt8) (e1 : h1 = headOf [[97]]) (e2 : h2 = headOf [[97], [98]]) : checkOf [([97], h1), ([120], h2), ([99], h3)] = 1 := by
  refine checkOf_bad _ 1 (by simp) (fun j hj => ?_) ?_
  · obtain rfl : j = 0 := by omega
    unfold goodAt
    rw [decide_eq_true_iff]
    simp only [List.getD_cons_zero, List.take_succ_cons, List.take_zero, List.map_cons, List.map_nil]
    exact e1
  · unfold goodAt
    rw [decide_eq_false_iff_not]
    simp only [List.getD_cons_succ, List.getD_cons_zero, List.take_succ_cons, List.take_zero, List.map_cons, List.map_nil]
    rw [e2]
    exact heads_ne
theorem lv_three (x0 x1 x2 : List UInt8 × List UInt8) (t : List UInt8) (h : x0.2.length = 32) : (lv [x0, x1, x2]).set 33 (.string (strB t)) = lv [x0, (t, x1.2), x2] := by
  have hl := lk_length x0 h
  simp only [lv, List.flatMap_cons, List.flatMap_nil, List.append_nil]
  rw [List.set_append_right _ _ (by omega), hl, Nat.sub_self]
  rfl
theorem own_empty (w : World) (e : TypeId) (s : Nat) : (w.alloc (.cells #[] e)).ownsRow w.heap.size e s (.slice (some ⟨w.heap.size, 0, none⟩) 0 0) 0 [] :=
  ⟨by simp, .inr ⟨w.heap.size, 0, #[], rfl, Nat.le_refl _, heap_alloc_new w _, Nat.le_refl _, by simp [maxLen], by simp, by simp⟩⟩

end Go.Proofs.Ythlbmjjodjepjaa
