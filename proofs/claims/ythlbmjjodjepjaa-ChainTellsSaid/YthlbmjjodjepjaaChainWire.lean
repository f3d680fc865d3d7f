/-
  A chain as bytes: Encode.
-/
import Derived.Test.YthlbmjjodjepjaaChainFew
import Derived.Test.YthlbmjjodjepjaaWireU
set_option linter.unusedVariables false
set_option linter.unusedSimpArgs false
namespace Go.Proofs.Ythlbmjjodjepjaa
open Go.RowKit

/-- The bytes of a chain. -/
def encL (M : List (List UInt8 × List UInt8)) : List UInt8 := M.flatMap fun x => be4n x.1.length ++ x.1 ++ x.2
def encOf (M : List (List UInt8 × List UInt8)) : List UInt8 := be4n M.length ++ encL M
theorem encL_snoc (M : List (List UInt8 × List UInt8)) (x : List UInt8 × List UInt8) : encL (M ++ [x]) = encL M ++ (be4n x.1.length ++ x.1 ++ x.2) := by simp [encL]
theorem encL_bound : ∀ (M : List (List UInt8 × List UInt8)), (∀ x ∈ M, x.2.length = 32) → (∀ x ∈ M, x.1.length ≤ 4000) → (encL M).length ≤ 4036 * M.length
  | [], _, _ => by simp [encL]
  | x :: M, h1, h2 => by
    have h := encL_bound M (fun y hy => h1 y (by simp [hy])) (fun y hy => h2 y (by simp [hy]))
    have e1 := h1 x (by simp)
    have e2 := h2 x (by simp)
    rw [encL, List.flatMap_cons, List.length_append, List.length_append, List.length_append, be4n_length, e1, List.length_cons]
    rw [encL] at h
    omega

set_option maxRecDepth 100000 in
theorem idx32 (h : List UInt8) (hh : h.length = 32) (i : Nat) (hi : i < 32) (w : World) : (Instr.index 28 (.agg (bv h).toArray) (.int .i64 (i : Int))).run Try.prog w = .ok (.int .u8 (un8 (bt h i))) w := by
  rw [← range_bt h hh]
  generalize bt h = f
  have e : bt ((List.range 32).map f) i = f i := by simp [bt, List.getD_eq_getElem?_getD, hi]
  rw [e]
  match i, hi with
  | 0, _ => rfl
  | 1, _ => rfl
  | 2, _ => rfl
  | 3, _ => rfl
  | 4, _ => rfl
  | 5, _ => rfl
  | 6, _ => rfl
  | 7, _ => rfl
  | 8, _ => rfl
  | 9, _ => rfl
  | 10, _ => rfl
  | 11, _ => rfl
  | 12, _ => rfl
  | 13, _ => rfl
  | 14, _ => rfl
  | 15, _ => rfl
  | 16, _ => rfl
  | 17, _ => rfl
  | 18, _ => rfl
  | 19, _ => rfl
  | 20, _ => rfl
  | 21, _ => rfl
  | 22, _ => rfl
  | 23, _ => rfl
  | 24, _ => rfl
  | 25, _ => rfl
  | 26, _ => rfl
  | 27, _ => rfl
  | 28, _ => rfl
  | 29, _ => rfl
  | 30, _ => rfl
  | 31, _ => rfl
  | n + 32, h => exact absurd h (by omega)

set_option maxRecDepth 100000 in
set_option maxHeartbeats 8000000 in
theorem encode_any (A : Option Addr) (n c : Nat) (M : List (List UInt8 × List UInt8)) (w : World) (hl : M.length = n) (hn : n ≤ 4000) (hh : ∀ x ∈ M, x.2.length = 32) (ht : ∀ x ∈ M, x.1.length ≤ 4000) (hr : RC w A (lv M)) :
    Calls Try.prog 45 #[.slice A n c] w fun e w' => ∃ v, e = .returned v ∧ w'.ownsRow w.heap.size 5 1 v (encOf M).length (bv (encOf M)) ∧ Below w.heap.size w w' := by
  subst hl
  have HL := Lib.hid hr
  have HH := Lib.hid hh
  have HT := Lib.hid ht
  have HN := Lib.hid hn
  have HEB := Lib.hid (show ∀ i, (encL (M.take i)).length ≤ 16144000 from fun i => by
    have h := encL_bound (M.take i) (fun x hx => hh x (List.mem_of_mem_take hx)) (fun x hx => ht x (List.mem_of_mem_take hx))
    rw [List.length_take] at h
    have : min i M.length ≤ 4000 := by omega
    omega)
  clear hr hh ht
  obtain ⟨z33, hz33⟩ : ∃ z33, z33 = (lk ([], hd0)).toArray := ⟨_, rfl⟩
  have HZ33 := Lib.hid hz33
  clear hz33
  go_enter Try.func45, Try.ntmps45
  go_wp2_with fail
  refine (newWriter_any _).mono ?_
  rintro e w1 ⟨rfl, hw, hb⟩
  have W1 := Lib.hid hw
  have B1 := Lib.hid hb
  clear hw hb
  go_wp2_with fail
  refine (writerFour_any _ _ _ _ [] W1.out M.length (by omega) (by simp)).mono ?_
  rintro e w2 ⟨v2, rfl, hw, hb⟩
  have W2 := Lib.hid (show WriterAt w2 w.heap.size w.heap.size v2 (be4n M.length ++ encL (M.take 0)) by simpa [encL] using hw)
  have B2 := Lib.hid (B1.out.trans hb)
  clear hw hb
  go_wp2_with fail
  go_loopg [15] M.length (fun k s15 wr => ∃ (i : Nat) (v : Value), i ≤ M.length ∧ k = M.length - i ∧ s15 = .int .i64 (i : Int) ∧ WriterAt wr w.heap.size w.heap.size v (be4n M.length ++ encL (M.take i)) ∧ Below w.heap.size w wr)
  case atStart => exact ⟨0, v2, Nat.zero_le _, by omega, rfl, W2.out, B2.out⟩
  case round =>
    obtain ⟨i, v, hi, hk, rfl, hw, hb⟩ := hrel
    have HK := Lib.hid hk
    have HW := Lib.hid hw
    have HB := Lib.hid hb
    clear hk hw hb W1 B1 W2 B2
    by_cases hlt : i < M.length
    · obtain ⟨bl, ol, rfl, e1⟩ := HL.out.parts (by rw [lv_length M HH.out]; omega)
      have HRG := Lib.hid (lk_range HH.out (fun j u hj => cell_below HB.out (e1 j u hj)) i hlt)
      have hhl := HH.out _ (List.getElem_mem hlt)
      have htl := HT.out _ (List.getElem_mem hlt)
      have HTS := Lib.hid (show encL (M.take (i + 1)) = encL (M.take i) ++ (be4n (M[i]).1.length ++ (M[i]).1 ++ (M[i]).2) by rw [List.take_succ_eq_append_getElem hlt, encL_snoc])
      generalize M[i] = x at *
      obtain ⟨t, h⟩ := x
      simp only at hhl htl HTS
      have hlkl := lk_length (t, h) hhl
      obtain ⟨lc, elc⟩ : ∃ lc, lc = lk (t, h) := ⟨_, rfl⟩
      have hfst : lc = .string (strB t) :: bv h := elc
      rw [← elc] at hlkl HRG
      have hil : (Try.prog.info? 30).map (·.size) = some lc.length := by rw [hlkl]; exact info33
      have hone : lc.toArray.all (·.oneCell') = true := by rw [elc]; exact all_oneCell_toArray (lk_one _)
      have hi0 : (0 : Int) ≤ (i : Int) := by omega
      have hi1 : (i : Int) < (M.length : Int) := by omega
      have HLT := Lib.hid hlt
      have HIL := Lib.hid hil
      have HLKL := Lib.hid hlkl
      have HONE := Lib.hid hone
      have HFST := Lib.hid hfst
      have HHL := Lib.hid hhl
      have HTL := Lib.hid htl
      clear e1 hhl htl hil hlkl hone hfst elc hlt hi
      go_upto_region 5 with fail
      refine wp_region_lit ?_
      refine Great.wpList_readTo rfl _ rfl (.pointer (some ⟨bl, ol + i * 33, none⟩)) ?h1 ?_
      case h1 =>
        simp only [execOp]
        go_simp
      refine wpList_load_mid rfl 30 (.tmp 17) rfl bl (ol + i * 33) rfl lc _ HRG.out Try.underlying30 rfl HIL.out ?_
      obtain ⟨z, hz⟩ : ∃ z, z = wr.heap.size := ⟨_, rfl⟩
      refine Great.wpList_allocTo rfl _ rfl (.pointer (some ⟨z, 0, none⟩)) (.cells z33 30) ?h2 ?_
      case h2 => rw [HZ33.out, hz]; kernel_rfl
      refine wpList_store_row rfl 30 (.tmp 5) (.tmp 18) rfl z lc.toArray rfl rfl 30 z33 (by rw [hz]; exact heap_alloc_new wr _) (by rw [List.size_toArray]; exact HIL.out) (by rw [HZ33.out, List.size_toArray, List.size_toArray, HLKL.out]; rfl) HONE.out ?_
      refine wpList_nil ?_
      rename_i hK
      refine hK _ _ ?_
      clear hK
      obtain ⟨w5, hw5⟩ : ∃ w5, w5 = (wr.alloc (.cells z33 30)).setRow z lc.toArray := ⟨_, rfl⟩
      rw [← hw5]
      have hz5 : w5.heap[z]? = some (.cells lc.toArray 30) := by rw [hw5, hz]; exact setRow_heap _ _ _ _ _ _ (heap_alloc_new wr _)
      have cz : w5.cell? ⟨z, 0, none⟩ = some (.string (strB t)) := by
        rw [cell_of_row w5 z 0 _ _ _ hz5, HFST.out]
        rfl
      have HB5 := Lib.hid (show Below wr.heap.size wr w5 by rw [hw5]; exact below_setRow ((Below.refl _ _).alloc (Nat.le_refl _) _) _ _ (by omega))
      have HW5 := Lib.hid (HW.out.below HB5.out)
      have HBB := Lib.hid (below_below HB.out HB.out.size HB5.out)
      have HZ5 := Lib.hid hz5
      have hzne : w.heap.size ≠ z := by have := HW.out.lt; omega
      have hznv : v.ownBlock ≠ some z := by intro e; have := (World.ownsRow.lt HW.out.own _ e).2; omega
      clear hw5 hz5 hz HB5 HW HB
      go_wp2_with fail
      refine (writerText2_any _ _ _ _ _ HW5.out t (by have := HTL.out; omega) (by have := HEB.out i; rw [List.length_append, be4n_length]; omega)).mono ?_
      rintro e w6 ⟨v6, rfl, hw6, hu6, hv6⟩
      have hz6 : w6.heap[z]? = some (.cells lc.toArray 30) := (hu6.block z (Array.getElem?_eq_some_iff.1 HZ5.out).1 (fun e => e.elim (fun e => hzne e.symm) hznv)).trans HZ5.out
      have HRZ := Lib.hid (show w6.rangeAt z 1 (bv h) by
        intro j u hj
        rw [cell_of_row w6 z (1 + j) _ _ _ hz6, HFST.out, Nat.add_comm 1 j]
        simpa using hj)
      have HW6 := Lib.hid hw6
      have HB6 := Lib.hid (show Below w.heap.size w w6 from below_upd HBB.out HBB.out.size hu6 (fun k hk => by
        rcases hk with h | h
        · omega
        · exact (World.ownsRow.lt HW5.out.own k h).1))
      clear hw6 hu6 hv6 hz6 hzne hznv cz HZ5
      go_upto_region 7 with fail
      refine wp_region_lit ?_
      refine Great.wpList_readTo rfl _ rfl (.pointer (some ⟨z, 1, none⟩)) ?h3 ?_
      case h3 =>
        simp only [execOp]
        go_simp
      refine wpList_load_mid rfl 28 (.tmp 23) rfl z 1 rfl (bv h) _ HRZ.out Try.underlying28 rfl (by rw [bv_length, HHL.out]; exact info72) ?_
      refine Great.wpList_readTo rfl _ rfl (.int .i64 0) rfl ?_
      refine wpList_nil ?_
      rename_i hK
      refine hK _ _ ?_
      clear hK
      obtain ⟨hc, ehc⟩ : ∃ hc, hc = (bv h).toArray := ⟨_, rfl⟩
      rw [← ehc]
      have HIX := Lib.hid (show ∀ j : Nat, j < 32 → ∀ W, (Instr.index 28 (.agg hc) (.int .i64 (j : Int))).run Try.prog W = .ok (.int .u8 (un8 (bt h j))) W from fun j hj W => by rw [ehc]; exact idx32 h HHL.out j hj W)
      have HTB := Lib.hid (show ∀ j : Nat, j < 32 → h.take (j + 1) = h.take j ++ [bt h j] from fun j hj => by
        rw [List.take_succ_eq_append_getElem (by rw [HHL.out]; exact hj)]
        simp [bt, List.getD_eq_getElem?_getD, List.getElem?_eq_getElem (show j < h.length by rw [HHL.out]; exact hj)])
      obtain ⟨bb, ebb⟩ : ∃ bb, bb = be4n M.length ++ encL (M.take i) ++ (be4n t.length ++ t) := ⟨_, rfl⟩
      have hbbl : bb.length ≤ 17000000 := by
        rw [ebb]
        have h1 := HEB.out i
        have h2 := HTL.out
        simp only [List.length_append, be4n_length]
        omega
      rw [← ebb] at HW6
      have EBB := Lib.hid ebb
      have HBBL := Lib.hid hbbl
      clear ehc ebb hbbl HRZ
      go_wp2_with fail
      go_loopg [25] 32 (fun k s25 wr2 => ∃ (j : Nat) (v7 : Value), j ≤ 32 ∧ k = 32 - j ∧ s25 = .int .i64 (j : Int) ∧ WriterAt wr2 w.heap.size w.heap.size v7 (bb ++ h.take j) ∧ Below w.heap.size w wr2)
      case atStart => exact ⟨0, v6, Nat.zero_le _, by omega, rfl, by rw [List.take_zero, List.append_nil]; exact HW6.out, HB6.out⟩
      case round =>
        obtain ⟨j, v7, hj, hk2, rfl, hw7, hb7⟩ := hrel
        have HK2 := Lib.hid hk2
        have HW7 := Lib.hid hw7
        have HB7 := Lib.hid hb7
        clear hk2 hw7 hb7 HW6 HB6
        by_cases hlt2 : j < 32
        · have hix := HIX.out j hlt2
          have HTJ := Lib.hid (HTB.out j hlt2)
          have hj0 : (0 : Int) ≤ (j : Int) := by omega
          have hj1 : (j : Int) < 32 := by omega
          generalize bt h j = y at *
          have hwy : IntKind.i64.wrap (un8 y) = un8 y := by have := un8_range y; rw [IntKind.wrap_i64]; omega
          have HLT2 := Lib.hid hlt2
          clear hlt2 hj
          go_wp2_with fail
          refine (writerByte2_any _ _ _ _ _ HW7.out y (by have := HBBL.out; rw [List.length_append, List.length_take]; omega)).mono ?_
          rintro e w8 ⟨v8, rfl, hw8, hu8, hv8⟩
          have HW8 := Lib.hid hw8
          have HB8 := Lib.hid (show Below w.heap.size w w8 from below_upd HB7.out HB7.out.size hu8 (fun k hk => by
            rcases hk with h | h
            · omega
            · exact (World.ownsRow.lt HW7.out.own k h).1))
          clear hw8 hu8 hv8 hix
          go_wp2_with fail
          go_roundg (32 - (j + 1))
          case measure => have := HK2.out; have := HLT2.out; omega
          case rel => exact ⟨j + 1, v8, HLT2.out, rfl, by go_num, by rw [HTJ.out, ← List.append_assoc]; exact HW8.out, HB8.out⟩
        · obtain rfl : j = 32 := by omega
          rw [List.take_of_length_le (by rw [HHL.out]; exact Nat.le_refl _)] at HW7
          clear hlt2 hj HK2 HIX HTB
          go_wp2_with fail
          go_roundg (M.length - (i + 1))
          case measure => have := HK.out; have := HLT.out; omega
          case rel => exact ⟨i + 1, v7, HLT.out, rfl, by go_num, by have h := HW7.out; rw [EBB.out] at h; rw [HTS.out]; simpa [List.append_assoc] using h, HB7.out⟩
    · obtain rfl : i = M.length := by omega
      rw [List.take_length] at HW
      go_wp2_with fail
      refine (writerDone_any _ _ _ _ _ HW.out (by have := HEB.out M.length; rw [List.take_length] at this; rw [List.length_append, be4n_length]; omega)).mono ?_
      rintro e w8 ⟨v8, rfl, ho, hb⟩
      have HO := Lib.hid ho
      have HB8 := Lib.hid (below_below HB.out HB.out.size hb)
      have HSZ := Lib.hid HB.out.size
      clear ho hb
      go_wp2_with fail
      go_ret
      exact ⟨_, rfl, own_lower HO.out HSZ.out, HB8.out⟩

end Go.Proofs.Ythlbmjjodjepjaa
