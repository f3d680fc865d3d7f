/-
  The walks of conclavebook's Roomy, Same and Intact at bytes.
-/
import Derived.Test.YthlbmjjodjepjaaArr
import Derived.Deep.OwnRows
import Derived.Laws.CopyOwn
import Derived.Great.Walk
set_option linter.unusedVariables false
set_option linter.unusedSimpArgs false
namespace Go.Proofs.Ythlbmjjodjepjaa
open Go.RowKit

theorem bk_make (m : Nat) (hm : m ≤ 281474976710656) (W : World) : (Instr.makeSlice 37 (.int .i64 (m : Int)) (.int .i64 (m : Int))).run Try.prog W =
    .ok (.slice (some ⟨W.heap.size, 0, none⟩) m m) (W.alloc (.cells (madeCells #[.int .u8 0] m) 5)) :=
  run_make_row' 37 5 (.int .u8 0) 1 Try.underlying37 info8 rfl .i64 .i64 m (by omega) (by omega) W
theorem bv_set' (l : List UInt8) (i : Nat) (x : UInt8) : (bv l).set i (.int .u8 (un8 x)) = bv (l.set i x) := by simp [bv, List.map_set, B8]
theorem info8s : (Try.prog.info? 5).map (·.size) = some 1 := by kernel_rfl

set_option maxHeartbeats 2000000 in
/-- Same of two lists that read alike. -/
theorem same8_eq (A1 A2 : Option Addr) (n c1 c2 : Nat) (l : List UInt8) (w : World) (hl : l.length = n) (hn : n ≤ 100000000) (h1 : RB w A1 l) (h2 : RB w A2 l) :
    Calls Try.prog 61 #[.slice A1 n c1, .slice A2 n c2] w fun e w' => e = .returned (.bool true) ∧ Below w.heap.size w w' := by
  subst hl
  have H1 := Lib.hid h1
  have H2 := Lib.hid h2
  clear h1 h2
  go_enter Try.func61, Try.ntmps61
  go_wp2
  go_loopg [5] l.length (fun k s5 wr => ∃ i : Nat, i ≤ l.length ∧ k = l.length - i ∧ s5 = .int .i64 (i : Int) ∧ Below w.heap.size w wr)
  case atStart => exact ⟨0, Nat.zero_le _, by omega, rfl, Below.refl _ _⟩
  case round =>
    obtain ⟨i, hi, hk, rfl, hb⟩ := hrel
    have HK := Lib.hid hk
    have HB := Lib.hid hb
    clear hk hb
    by_cases hlt : i < l.length
    · obtain ⟨b1, o1, rfl, e1⟩ := H1.out.parts (by omega)
      obtain ⟨b2, o2, rfl, e2⟩ := H2.out.parts (by omega)
      have k1 := cell_below HB.out (e1 i hlt)
      have k2 := cell_below HB.out (e2 i hlt)
      generalize l[i] = x at *
      clear e1 e2
      have hi0 : (0 : Int) ≤ (i : Int) := by omega
      have hi1 : (i : Int) < (l.length : Int) := by omega
      have HLT := Lib.hid hlt
      clear hi hlt
      go_upto_region 6 with fail
      go_region
      all_goals
        go_wp2
        go_roundg (l.length - (i + 1))
        case measure => have := HK.out; have := HLT.out; omega
        case rel => exact ⟨i + 1, HLT.out, rfl, by go_num, HB.out.drew⟩
    · obtain rfl : i = l.length := by omega
      go_wp2
      go_ret
      exact ⟨rfl, HB.out⟩

set_option maxHeartbeats 2000000 in
theorem intact8_any (A1 A2 : Option Addr) (n c1 c2 : Nat) (l : List UInt8) (mk : UInt8) (w : World) (hl : l.length = n) (hn : n ≤ 100000000) (hc : n + 80 ≤ c1) (h1 : RB w A1 (l ++ List.replicate 80 mk)) (h2 : RB w A2 l) :
    Calls Try.prog 29 #[.slice A1 (n + 80) c1, .slice A2 n c2, .int .u8 (un8 mk)] w fun e w' => e = .returned (.bool true) ∧ Below w.heap.size w w' := by
  subst hl
  have H1 := Lib.hid h1
  have H1' := Lib.hid (show RB w A1 l by have := RB_take h1 l.length; simpa using this)
  have H2 := Lib.hid h2
  clear h1 h2
  go_enter Try.func29, Try.ntmps29
  go_wp2_with fail
  refine (same8_eq A1 A2 l.length _ c2 l w rfl hn H1'.out H2.out).mono ?_
  rintro e w1 ⟨rfl, hb1⟩
  have HB1 := Lib.hid hb1
  clear hb1
  go_wp2_with fail
  go_loopg [7] 80 (fun k s7 wr => ∃ i : Nat, i ≤ 80 ∧ k = 80 - i ∧ s7 = .int .i64 ((l.length : Int) + (i : Int)) ∧ Below w.heap.size w wr)
  case atStart => exact ⟨0, Nat.zero_le _, by omega, by simp, HB1.out⟩
  case round =>
    obtain ⟨i, hi, hk, rfl, hb⟩ := hrel
    have HK := Lib.hid hk
    have HB := Lib.hid hb
    clear hk hb HB1
    by_cases hlt : i < 80
    · obtain ⟨b1, o1, rfl, e1⟩ := H1.out.parts (by simp)
      have k1 := cell_below HB.out (e1 (l.length + i) (by simp; omega))
      rw [show (l ++ List.replicate 80 mk)[l.length + i]'(by simp; omega) = mk by rw [List.getElem_append_right (by omega)]; exact List.getElem_replicate _] at k1
      clear e1
      obtain ⟨k, hk⟩ : ∃ k, k = l.length + i := ⟨_, rfl⟩
      have hkk : (l.length : Int) + (i : Int) = (k : Int) := by omega
      rw [← hk] at k1
      have hi0 : (0 : Int) ≤ (k : Int) := by omega
      have hi1 : (k : Int) < (l.length : Int) + 80 := by omega
      have HLT := Lib.hid hlt
      have HKK := Lib.hid hkk
      clear hi hlt hk
      rw [hkk]
      clear hkk
      go_wp2_with fail
      go_roundg (80 - (i + 1))
      case measure => have := HK.out; have := HLT.out; omega
      case rel => exact ⟨i + 1, HLT.out, rfl, by have := HKK.out; go_num, HB.out⟩
    · obtain rfl : i = 80 := by omega
      go_wp2_with fail
      go_ret
      exact ⟨rfl, HB.out⟩

set_option maxHeartbeats 2000000 in
theorem roomy8_any (A : Option Addr) (n c : Nat) (l : List UInt8) (mk : UInt8) (w : World) (hl : l.length = n) (hn : n ≤ 100000000) (hr : RB w A l) :
    Calls Try.prog 25 #[.slice A n c, .int .u8 (un8 mk)] w fun e w' => e = .returned (.slice (some ⟨w.heap.size, 0, none⟩) (n + 80) (n + 80)) ∧ Arr w' w.heap.size 5 (bv (l ++ List.replicate 80 mk)) ∧ Below w.heap.size w w' := by
  subst hl
  have HR := Lib.hid hr
  clear hr
  have mkr : ∀ W : World, (Instr.makeSlice 37 (.int .i64 ((l.length : Int) + 80)) (.int .i64 ((l.length : Int) + 80))).run Try.prog W = .ok (.slice (some ⟨W.heap.size, 0, none⟩) (l.length + 80) (l.length + 80)) (W.alloc (.cells (madeCells #[.int .u8 0] (l.length + 80)) 5)) := fun W => bk_make (l.length + 80) (by omega) W
  go_enter Try.func25, Try.ntmps25
  go_upto_region 2 with fail
  refine wp_region_lit ?_
  obtain ⟨W, hW⟩ : ∃ W, W = w.alloc (.cells (madeCells #[.int .u8 0] (l.length + 80)) 5) := ⟨_, rfl⟩
  have hWb : Below w.heap.size w W := by rw [hW]; exact (Below.refl _ _).alloc (Nat.le_refl _) _
  have hWc : W.heap[w.heap.size]? = some (.cells (bv (List.replicate (l.length + 80) 0)).toArray 5 (0, 0)) := by
    rw [hW, heap_alloc_new, show bv (List.replicate (l.length + 80) 0) = List.replicate (l.length + 80) (.int .u8 0) by simp [bv, B8, un8], ← toList_madeCells_one, Array.toArray_toList]
  rw [← hW]
  have HRW := Lib.hid (HR.out.below (by rw [hW]; exact (Below.refl _ _).alloc (Nat.le_refl _) _ : Below w.heap.size w W))
  clear hW
  refine Great.wpList_readTo rfl _ rfl (.slice (some ⟨w.heap.size, 0, none⟩) (l.length + 80) (l.length + 80)) ?m1 ?_
  case m1 => kernel_rfl
  refine Great.wpList_readTo rfl _ rfl (.slice A l.length c) ?m2 ?_
  case m2 => kernel_rfl
  refine wpList_copy_splice rfl (.tmp 11) (.tmp 12) 37 37 rfl 5 Try.underlying37 info8s _ _ _ _ _ _ rfl rfl w.heap.size 0 (bv (List.replicate (l.length + 80) 0)) 5 hWc (bv l) (by rw [bv_length]; exact (Nat.min_eq_left (by omega)).symm) ?x1 (by rw [bv_length, bv_length]; simp) (bv_one _) w.heap.size w hWb (Nat.le_refl _) ?_
  case x1 =>
    intro h0
    obtain ⟨ad, e, hc⟩ := HRW.out.cells h0
    exact ⟨rfl, ad, e, hc⟩
  intro w1 hc1 hb1
  have h1 : Arr w1 w.heap.size 5 (bv (l ++ List.replicate 0 mk ++ List.replicate (80 - 0) 0)) := by
    have h := hc1.out
    rw [show splice (bv (List.replicate (l.length + 80) 0)) 0 (bv l) = bv (l ++ List.replicate 0 mk ++ List.replicate (80 - 0) 0) by
      simp [splice, bv]] at h
    exact h
  have H1 := Lib.hid h1
  have HB1 := Lib.hid hb1
  clear h1 hc1 hb1 hWc hWb
  refine wpList_nil ?_
  rename_i hK
  refine hK _ _ ?_
  clear hK
  go_wp2_with fail
  go_loopg [6] 80 (fun k s6 wr => ∃ i : Nat, i ≤ 80 ∧ k = 80 - i ∧ s6 = .int .i64 ((l.length : Int) + (i : Int)) ∧ Arr wr w.heap.size 5 (bv (l ++ List.replicate i mk ++ List.replicate (80 - i) 0)) ∧ Below w.heap.size w wr)
  case atStart => exact ⟨0, Nat.zero_le _, by omega, by simp, H1.out, HB1.out⟩
  case round =>
    obtain ⟨i, hi, hk, rfl, ha, hb⟩ := hrel
    have HK := Lib.hid hk
    have HB := Lib.hid hb
    have HA := Lib.hid ha
    clear hk hb HB1 H1 ha
    by_cases hlt : i < 80
    · obtain ⟨k, hk⟩ : ∃ k, k = l.length + i := ⟨_, rfl⟩
      have hkk : (l.length : Int) + (i : Int) = (k : Int) := by omega
      obtain ⟨u0, c0⟩ : ∃ u, wr.cell? ⟨w.heap.size, k, none⟩ = some u := ⟨_, HA.out.byte (i := k) (by simp; omega)⟩
      have f0 := HA.out.frozen k
      have hi0 : (0 : Int) ≤ (k : Int) := by omega
      have hi1 : (k : Int) < (l.length : Int) + 80 := by omega
      have HLT := Lib.hid hlt
      have HKK := Lib.hid hkk
      have HKN := Lib.hid hk
      clear hi hlt hk
      rw [hkk]
      clear hkk
      go_wp2_with fail
      go_roundg (80 - (i + 1))
      case measure => have := HK.out; have := HLT.out; omega
      case rel =>
        have h80 := HLT.out
        refine ⟨i + 1, HLT.out, rfl, by have := HKK.out; go_num, ?_, HB.out.setCell (Nat.le_refl _) _⟩
        have h := HA.out.set k (.int .u8 (un8 mk))
        have e : (l ++ List.replicate i mk ++ List.replicate (80 - i) 0).set k mk = l ++ List.replicate (i + 1) mk ++ List.replicate (80 - (i + 1)) 0 := by
          rw [HKN.out, List.set_append_right _ _ (by simp), show 80 - i = (80 - (i + 1)) + 1 by omega, List.replicate_succ, List.replicate_succ' (n := i)]
          simp
        rw [bv_set', e] at h
        exact h
    · obtain rfl : i = 80 := by omega
      have ha : Arr wr w.heap.size 5 (bv (l ++ List.replicate 80 mk)) := by simpa using HA.out
      have HA2 := Lib.hid ha
      clear ha HA
      go_wp2_with fail
      go_ret
      exact ⟨rfl, HA2.out, HB.out⟩

end Go.Proofs.Ythlbmjjodjepjaa
