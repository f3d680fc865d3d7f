/-
  The walk of the runs that the laws of chain close with.
-/
import Derived.Test.YthlbmjjodjepjaaChainCheck
set_option linter.unusedVariables false
set_option linter.unusedSimpArgs false
namespace Go.Proofs.Ythlbmjjodjepjaa
open Go.RowKit

theorem lv_split (M : List (List UInt8 × List UInt8)) (k : Nat) : lv M = lv (M.take k) ++ lv (M.drop k) := by
  rw [lv, lv, lv, ← List.flatMap_append, List.take_append_drop]
theorem RLk_take {w : World} {A : Option Addr} {M : List (List UInt8 × List UInt8)} (h : RC w A (lv M)) (k : Nat) : RC w A (lv (M.take k)) := by
  intro hp
  obtain ⟨ad, e, hc⟩ := h (by rw [lv_split M k, List.length_append]; omega)
  exact ⟨ad, e, fun j v hj => hc j v (by rw [lv_split M k, List.getElem?_append_left (List.getElem?_eq_some_iff.1 hj).1]; exact hj)⟩
theorem mkOf_one (x : List UInt8) : mkOf [x] = [(x, headOf [x])] := by simp [mkOf]
theorem mkOf_texts (L : List (List UInt8)) (k : Nat) (hs : ∀ x ∈ L, x.length ≤ k) : ∀ x ∈ mkOf L, x.1.length ≤ k := by
  intro x hx
  simp only [mkOf, List.mem_map] at hx
  obtain ⟨j, hj, rfl⟩ := hx
  have hj' := List.mem_range.1 hj
  simp only [List.getD_eq_getElem?_getD, List.getElem?_eq_getElem hj', Option.getD_some]
  exact hs _ (List.getElem_mem hj')

set_option maxRecDepth 100000 in
set_option maxHeartbeats 8000000 in
theorem known19_any (w : World) : Calls Try.prog 16 #[] w fun e w' => e = .returned (.bool true) ∧ Below w.heap.size w w' := by
  go_enter Try.func16, Try.ntmps16
  have hlen2 : (mkOf [[97], [98]]).length = 2 := mkOf_length _
  have hhd2 := mkOf_heads [[97], [98]]
  have htx2 := mkOf_texts [[97], [98]] 1000000 (by simp)
  have hma := mkOf_one [97]
  have hmb := mkOf_one [98]
  have hhda := mkOf_heads [[97]]
  have hhdb := mkOf_heads [[98]]
  have htxa := mkOf_texts [[97]] 1000000 (by simp)
  have htxb := mkOf_texts [[98]] 1000000 (by simp)
  have hne : decide ((mkOf [[97]]).take (min 1 1) = (mkOf [[98]]).take (min 1 1)) = false := by
    rw [decide_eq_false_iff_not, hma, hmb]
    simp
  have HNE := Lib.hid hne
  have HL2 := Lib.hid hlen2
  have HHD2 := Lib.hid hhd2
  have HTX2 := Lib.hid htx2
  have HHDA := Lib.hid hhda
  have HHDB := Lib.hid hhdb
  have HTXA := Lib.hid htxa
  have HTXB := Lib.hid htxb
  have HLA := Lib.hid (mkOf_length [[97]])
  have HLB := Lib.hid (mkOf_length [[98]])
  clear hne hlen2 hhd2 htx2 hma hmb hhda hhdb htxa htxb
  go_wp2_with fail
  refine (make_any _ 2 2 [[97], [98]] _ rfl (by omega) (by simp) (RC_newL w [.string (strB [97]), .string (strB [98])] 9)).mono ?_
  rintro e w1 ⟨v1, rfl, ho, hb⟩
  obtain ⟨g1, c1, rfl, _, hc1⟩ := own_form ho (by simp)
  have hB1 : Below w.heap.size w w1 := below_below ((Below.refl _ _).alloc (Nat.le_refl _) _) (by simp) hb
  have B1 := Lib.hid hB1
  have R1 := Lib.hid (own_RC ho)
  have hc1' : (1 : Int) ≤ (c1 : Int) := by simp at hc1; omega
  clear ho hb hB1 hc1
  go_wp2_with fail
  refine (check_made _ 2 c1 [[97], [98]] w1 rfl (by omega) (by simp) R1.out).mono ?_
  rintro e w2 ⟨rfl, hb⟩
  have B2 := Lib.hid (below_below B1.out B1.out.size hb)
  have R2 := Lib.hid (R1.out.below hb)
  clear hb B1 R1
  go_wp2_with fail
  refine (prefix_any (some ⟨g1, 0, none⟩) (some ⟨g1, 0, none⟩) 1 c1 2 c1 ((mkOf [[97], [98]]).take 1) (mkOf [[97], [98]]) w2 (by rw [List.length_take, HL2.out]; rfl) HL2.out (by omega) (by omega)
    (fun x hx => HHD2.out x (List.mem_of_mem_take hx)) HHD2.out (fun x hx => HTX2.out x (List.mem_of_mem_take hx)) HTX2.out (RLk_take R2.out 1) R2.out).mono ?_
  rw [decide_eq_true (by rw [List.take_take]; rfl)]
  rintro e w3 ⟨rfl, hb⟩
  have B3 := Lib.hid (below_below B2.out B2.out.size hb)
  clear hb B2 R2
  go_wp2_with fail
  refine (make_any _ 1 1 [[97]] _ rfl (by omega) (by simp) (RC_newL w3 [.string (strB [97])] 9)).mono ?_
  rintro e w4 ⟨v4, rfl, ho, hb⟩
  obtain ⟨g4, c4, rfl, _, hc4⟩ := own_form ho (by simp)
  have B4 := Lib.hid (below_below (B3.out.alloc B3.out.size _) (by have := B3.out.size; simp; omega) hb)
  have R4 := Lib.hid (own_RC ho)
  clear ho hb hc4 B3
  go_wp2_with fail
  refine (make_any _ 1 1 [[98]] _ rfl (by omega) (by simp) (RC_newL w4 [.string (strB [98])] 9)).mono ?_
  rintro e w5 ⟨v5, rfl, ho, hb⟩
  obtain ⟨g5, c5, rfl, _, hc5⟩ := own_form ho (by simp)
  have B5 := Lib.hid (below_below (B4.out.alloc B4.out.size _) (by have := B4.out.size; simp; omega) hb)
  have R5 := Lib.hid (own_RC ho)
  have R4' := Lib.hid ((R4.out.below ((Below.refl _ _).alloc (Nat.le_refl _) _)).below hb)
  clear ho hb hc5 B4 R4
  go_wp2_with fail
  refine (prefix_any (some ⟨g4, 0, none⟩) (some ⟨g5, 0, none⟩) 1 c4 1 c5 (mkOf [[97]]) (mkOf [[98]]) w5 HLA.out HLB.out (by omega) (by omega) HHDA.out HHDB.out HTXA.out HTXB.out R4'.out R5.out).mono ?_
  rw [HNE.out]
  rintro e w6 ⟨rfl, hb⟩
  have B6 := Lib.hid (below_below B5.out B5.out.size hb)
  clear hb B5 R5 R4'
  go_wp2_with fail
  go_ret
  exact ⟨rfl, B6.out⟩

end Go.Proofs.Ythlbmjjodjepjaa
