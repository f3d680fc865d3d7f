/-
  Both Decodes alike: what they make of any bytes.
-/
import Derived.Test.YthlbmjjodjepjaaLawOut
import Derived.Test.YthlbmjjodjepjaaBook
import Derived.Test.YthlbmjjodjepjaaRefPrefix
import Derived.Test.YthlbmjjodjepjaaKnown19
import Derived.Test.YthlbmjjodjepjaaWithin
set_option linter.unusedVariables false
set_option linter.unusedSimpArgs false
namespace Go.Proofs.Ythlbmjjodjepjaa
open Go.RowKit

def resS (l : List UInt8) : Lks × Int × Int := match decS l with | .inl (why, en) => ([], why, en) | .inr M => (M, 0, 0)
theorem decode_u (A : Option Addr) (n c : Nat) (l : List UInt8) (w : World) (hl : l.length = n) (hll : l.length ≤ 17000000) (hr : RB w A l) (hnil : A = none → c = 0) :
    Calls Try.prog 51 #[.slice A n c] w fun e w' => ∃ Ap cp, e = .returned (.tuple #[.slice Ap (resS l).1.length cp, .int .i64 (resS l).2.1, .int .i64 (resS l).2.2]) ∧ RC w' Ap (lv (resS l).1) ∧ (∀ x ∈ (resS l).1, x.2.length = 32 ∧ x.1.length ≤ 4000) ∧ (resS l).1.length ≤ 4096 ∧ Below w.heap.size w w' := by
  refine (decode_g A n c l w hl hll hr hnil).mono ?_
  rintro e w' ⟨hb, ⟨why, en, hd, rfl⟩ | ⟨M, v, hd, rfl, ho, h1, h2, h3⟩⟩
  · have e1 : resS l = ([], why, en) := by unfold resS; rw [hd]
    rw [e1]
    exact ⟨none, 0, rfl, RC.nil _ _, (fun x hx => by cases hx), by simp, hb⟩
  · have e1 : resS l = (M, 0, 0) := by unfold resS; rw [hd]
    rw [e1]
    obtain ⟨Ap, cp, rfl, _⟩ := own_slice ho
    exact ⟨Ap, cp, rfl, own_RC ho, fun x hx => ⟨h1 x hx, h2 x hx⟩, h3, hb⟩
theorem refDecode_u (A : Option Addr) (n c : Nat) (l : List UInt8) (w : World) (hl : l.length = n) (hll : l.length ≤ 17000000) (hcap : l.length ≤ c) (hr : RB w A l) :
    Calls Try.prog 52 #[.slice A n c] w fun e w' => ∃ Ap cp, e = .returned (.tuple #[.slice Ap (resS l).1.length cp, .int .i64 (resS l).2.1, .int .i64 (resS l).2.2]) ∧ RC w' Ap (lv (resS l).1) ∧ Below w.heap.size w w' := by
  refine (refDecode_g A n c l w hl hll hcap hr).mono ?_
  rintro e w' ⟨hb, ⟨why, en, hd, rfl⟩ | ⟨M, v, hd, rfl, ho, h1, h2, h3⟩⟩
  · have e1 : resS l = ([], why, en) := by unfold resS; rw [hd]
    rw [e1]
    exact ⟨none, 0, rfl, RC.nil _ _, hb⟩
  · have e1 : resS l = (M, 0, 0) := by unfold resS; rw [hd]
    rw [e1]
    obtain ⟨Ap, cp, rfl, _⟩ := own_slice ho
    exact ⟨Ap, cp, rfl, own_RC ho, hb⟩
/-- One head's byte another. -/
theorem lv_set (M : Lks) (hM : ∀ x ∈ M, x.2.length = 32) (k j : Nat) (hk : k < M.length) (hj : j < 32) (y : UInt8) : ∃ M2 : Lks, (lv M).set (k * 33 + 1 + j) (.int .u8 (un8 y)) = lv M2 ∧ M2.length = M.length ∧ (∀ x ∈ M2, x.2.length = 32) ∧ ∀ n, (∀ x ∈ M, x.1.length ≤ n) → ∀ x ∈ M2, x.1.length ≤ n := by
  have hsp : M = M.take k ++ M[k] :: M.drop (k + 1) := by
    conv => lhs; rw [← List.take_append_drop k M, List.drop_eq_getElem_cons hk]
  have hk32 : (M[k]).2.length = 32 := hM _ (List.getElem_mem hk)
  refine ⟨M.take k ++ ((M[k]).1, (M[k]).2.set j y) :: M.drop (k + 1), ?_, ?_, ?_, ?_⟩
  · have hl1 : (lv (M.take k)).length = k * 33 := by
      rw [lv_length _ (fun x hx => hM x (List.mem_of_mem_take hx)), List.length_take, Nat.min_eq_left (by omega)]
    have e1 : lv M = lv (M.take k) ++ (lk M[k] ++ lv (M.drop (k + 1))) := by
      refine (congrArg lv hsp).trans ?_
      unfold lv
      rw [List.flatMap_append, List.flatMap_cons]
    have e2 : lv (M.take k ++ ((M[k]).1, (M[k]).2.set j y) :: M.drop (k + 1)) = lv (M.take k) ++ (lk ((M[k]).1, (M[k]).2.set j y) ++ lv (M.drop (k + 1))) := by simp [lv]
    rw [e1, e2, List.set_append_right _ _ (by omega), List.set_append_left _ _ (by rw [lk_length M[k] hk32]; omega)]
    congr 2
    rw [show k * 33 + 1 + j - (lv (M.take k)).length = 1 + j by omega]
    exact lk_set _ _ j y
  · simp; omega
  · intro x hx
    rcases List.mem_append.1 hx with hx | hx
    · exact hM x (List.mem_of_mem_take hx)
    · rcases List.mem_cons.1 hx with rfl | hx
      · simpa using hk32
      · exact hM x (List.mem_of_mem_drop hx)
  · intro n hn x hx
    rcases List.mem_append.1 hx with hx | hx
    · exact hn x (List.mem_of_mem_take hx)
    · rcases List.mem_cons.1 hx with rfl | hx
      · show (M[k]).1.length ≤ n
        exact hn _ (List.getElem_mem hk)
      · exact hn x (List.mem_of_mem_drop hx)
theorem roomy165t (A : Option Addr) (n c : Nat) (l : List UInt8) (w : World) (hl : l.length = n) (hn : n ≤ 100000000) (hr : RB w A l) :
    Calls Try.prog 25 #[.slice A n c, .int .u8 165] w fun e w' => e = .returned (.slice (some ⟨w.heap.size, 0, none⟩) (n + 80) (n + 80)) ∧ Arr w' w.heap.size 5 (bv (l ++ List.replicate 80 165)) ∧ Below w.heap.size w w' := roomy8_any A n c l 165 w hl hn hr
theorem intact165t (A1 A2 : Option Addr) (n c1 c2 : Nat) (l : List UInt8) (w : World) (hl : l.length = n) (hn : n ≤ 100000000) (hc : n + 80 ≤ c1) (h1 : RB w A1 (l ++ List.replicate 80 165)) (h2 : RB w A2 l) :
    Calls Try.prog 29 #[.slice A1 (n + 80) c1, .slice A2 n c2, .int .u8 165] w fun e w' => e = .returned (.bool true) ∧ Below w.heap.size w w' := intact8_any A1 A2 n c1 c2 l 165 w hl hn hc h1 h2
end Go.Proofs.Ythlbmjjodjepjaa
