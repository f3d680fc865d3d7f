/-
  The walks of the small functions around a chain: few, Same, Texts, Check.
-/
import Derived.Test.YthlbmjjodjepjaaChainMake
set_option linter.unusedVariables false
set_option linter.unusedSimpArgs false
namespace Go.Proofs.Ythlbmjjodjepjaa
open Go.RowKit

set_option maxHeartbeats 2000000 in
theorem sameS_any (A1 A2 : Option Addr) (n1 c1 n2 c2 : Nat) (L1 L2 : List (List UInt8)) (w : World) (hl1 : L1.length = n1) (hl2 : L2.length = n2) (hn : n1 ≤ 10000000) (hm : n2 ≤ 10000000) (h1 : RS w A1 L1) (h2 : RS w A2 L2) :
    Calls Try.prog 20 #[.slice A1 n1 c1, .slice A2 n2 c2] w fun e w' => e = .returned (.bool (decide (L1 = L2))) ∧ Below w.heap.size w w' := by
  subst hl1
  subst hl2
  obtain ⟨R, eR⟩ : ∃ R, R = decide (L1 = L2) := ⟨_, rfl⟩
  rw [← eR]
  have ER := Lib.hid eR
  clear eR
  have H1 := Lib.hid h1
  have H2 := Lib.hid h2
  clear h1 h2
  by_cases hll : L1.length = L2.length
  · have hlb : ((L1.length : Int) != (L2.length : Int)) = false := by simp [hll]
    have HLL := Lib.hid hll
    clear hll
    go_enter Try.func20, Try.ntmps20
    go_wp2_with fail
    go_loopg [5] L1.length (fun k s5 wr => ∃ i : Nat, i ≤ L1.length ∧ k = L1.length - i ∧ s5 = .int .i64 (i : Int) ∧ L1.take i = L2.take i ∧ Below w.heap.size w wr)
    case atStart => exact ⟨0, Nat.zero_le _, by omega, rfl, rfl, Below.refl _ _⟩
    case round =>
      obtain ⟨i, hi, hk, rfl, heq, hb⟩ := hrel
      have HK := Lib.hid hk
      have HB := Lib.hid hb
      have HEQ := Lib.hid heq
      clear hk hb heq
      by_cases hlt : i < L1.length
      · have hlt2 : i < L2.length := by have := HLL.out; omega
        obtain ⟨b1, o1, rfl, e1⟩ := H1.out.parts (by rw [sv_length]; omega)
        obtain ⟨b2, o2, rfl, e2⟩ := H2.out.parts (by rw [sv_length]; omega)
        have k1 := cell_below HB.out (e1 i _ (sv_get' L1 i hlt))
        have k2 := cell_below HB.out (e2 i _ (sv_get' L2 i hlt2))
        have t1 := List.take_succ_eq_append_getElem hlt
        have t2 := List.take_succ_eq_append_getElem hlt2
        by_cases hx : L1[i] = L2[i]
        · have HT := Lib.hid (show L1.take (i + 1) = L2.take (i + 1) by rw [t1, t2, HEQ.out, hx])
          rw [← hx] at k2
          generalize strB L1[i] = z at *
          clear e1 e2 t1 t2 hx
          have hi0 : (0 : Int) ≤ (i : Int) := by omega
          have hi1 : (i : Int) < (L1.length : Int) := by omega
          have hi2 : (i : Int) < (L2.length : Int) := by omega
          have HLT := Lib.hid hlt
          clear hi hlt hlt2
          go_upto_region 6 with fail
          go_region
          all_goals
            go_wp2_with fail
            go_roundg (L1.length - (i + 1))
            case measure => have := HK.out; have := HLT.out; omega
            case rel => exact ⟨i + 1, HLT.out, rfl, by go_num, HT.out, HB.out.drew⟩
        · have hz : ¬ (strB L1[i] = strB L2[i]) := fun h => hx (strB_inj h)
          have HRF := Lib.hid (show R = false by
            rw [ER.out, decide_eq_false_iff_not]
            intro h
            subst h
            exact hx rfl)
          generalize strB L1[i] = z1 at *
          generalize strB L2[i] = z2 at *
          clear e1 e2 t1 t2 hx
          have hi0 : (0 : Int) ≤ (i : Int) := by omega
          have hi1 : (i : Int) < (L1.length : Int) := by omega
          have hi2 : (i : Int) < (L2.length : Int) := by omega
          clear hi hlt hlt2
          have hzb : (z1.toList == z2.toList) = false := by
            rw [beq_eq_false_iff_ne, ByteArray.toList_eq, ByteArray.toList_eq]
            exact fun h => hz (by rw [← data_eq z1, ← data_eq z2, h])
          go_upto_region 6 with fail
          go_region
          all_goals
            go_wp2_with fail
            go_ret
            rw [HRF.out]
            exact ⟨rfl, HB.out.drew⟩
      · obtain rfl : i = L1.length := by omega
        have HRT := Lib.hid (show R = true by
          rw [ER.out, decide_eq_true_iff]
          have := HEQ.out
          rwa [List.take_length, HLL.out, List.take_length] at this)
        clear hlt hi
        go_wp2_with fail
        go_ret
        rw [HRT.out]
        exact ⟨rfl, HB.out⟩
  · have hlb : ((L1.length : Int) != (L2.length : Int)) = true := by simp; omega
    have HRF := Lib.hid (show R = false by
      rw [ER.out, decide_eq_false_iff_not]
      intro h
      exact hll (by rw [h]))
    clear hll
    go_enter Try.func20, Try.ntmps20
    go_wp2_with fail
    go_ret
    rw [HRF.out]
    exact ⟨rfl, Below.refl _ _⟩

/-- The first texts, each cut at 100. -/
def fewOf (L : List (List UInt8)) (most : Nat) : List (List UInt8) := (L.take most).map (·.take 100)
theorem fewOf_length (L : List (List UInt8)) (most : Nat) : (fewOf L most).length = min most L.length := by simp [fewOf]
theorem fewOf_small (L : List (List UInt8)) (most : Nat) : ∀ x ∈ fewOf L most, x.length ≤ 100 := by
  intro x hx
  simp only [fewOf, List.mem_map] at hx
  obtain ⟨y, _, rfl⟩ := hx
  simp
  omega
theorem fewOf_succ (L : List (List UInt8)) (i : Nat) (h : i < L.length) : fewOf L (i + 1) = fewOf L i ++ [L[i].take 100] := by
  unfold fewOf
  rw [List.take_succ_eq_append_getElem h, List.map_append]
  rfl

set_option maxRecDepth 100000 in
set_option maxHeartbeats 4000000 in
theorem few19_any (A : Option Addr) (n c : Nat) (L : List (List UInt8)) (most : Nat) (w : World) (hl : L.length = n) (hm : most ≤ 100000) (hr : RS w A L) :
    Calls Try.prog 15 #[.slice A n c, .int .i64 (most : Int)] w fun e w' => ∃ v, e = .returned v ∧ w'.ownsRow w.heap.size 9 1 v (min most L.length) (sv (fewOf L most)) ∧ Below w.heap.size w w' := by
  subst hl
  have HL := Lib.hid hr
  have HM := Lib.hid hm
  clear hr hm
  go_enter Try.func15, Try.ntmps15
  go_wp2_with fail
  go_loopg [5, 6] most (fun k s5 s6 wr => ∃ i : Nat, i ≤ L.length ∧ i ≤ most ∧ k = most - i ∧ s6 = .int .i64 (i : Int) ∧ wr.ownsRow w.heap.size 9 1 s5 i (sv (fewOf L i)) ∧ Below w.heap.size w wr)
  case atStart => exact ⟨0, Nat.zero_le _, Nat.zero_le _, by omega, rfl, World.ownsRow_nil _ _ _ _, Below.refl _ _⟩
  case round =>
    obtain ⟨i, hi, him, hk, rfl, ho, hb⟩ := hrel
    have HK := Lib.hid hk
    have HO := Lib.hid ho
    have HB := Lib.hid hb
    clear hk ho hb
    by_cases hlt : i < L.length ∧ i < most
    · obtain ⟨hlt, hltm⟩ := hlt
      obtain ⟨bl, ol, rfl, e1⟩ := HL.out.parts (by rw [sv_length]; omega)
      have k1 := cell_below HB.out (e1 i _ (sv_get' L i hlt))
      have HT := Lib.hid (fewOf_succ L i hlt)
      generalize L[i] = x at *
      have HSX := Lib.hid (show (strB x).size = x.length from strB_size x)
      have EX := Lib.hid (strB_toList x)
      obtain ⟨sx, esx⟩ : ∃ sx, sx = strB x := ⟨_, rfl⟩
      rw [← esx] at k1 HSX EX
      have HI := Lib.hid hi
      have HIM := Lib.hid him
      have HLT := Lib.hid hlt
      have HLTM := Lib.hid hltm
      clear e1 esx
      go_upto_if 25 with fail
      go_cut [7] (fun s7 wx => s7 = .string (strB (x.take 100)) ∧ wx = wr)
      case first =>
        by_cases h100 : sx.size ≤ 100
        · have g1 : ¬ ((100 : Int) < (sx.size : Int)) := by omega
          have HE := Lib.hid (show sx = strB (x.take 100) by
            rw [List.take_of_length_le (by rw [← HSX.out]; exact h100), ← EX.out, strB_data])
          clear h100
          go_wp2_with fail
          go_meet
          exact ⟨by rw [← HE.out], rfl⟩
        · have g1 : (100 : Int) < (sx.size : Int) := by omega
          have g2 : (100 : Int) ≤ (sx.size : Int) := by omega
          have HE := Lib.hid (show sx.extract 0 100 = strB (x.take 100) by
            have h := ByteArray.extract_mk sx.data.toList 0 100
            rw [data_eq, EX.out] at h
            simpa [strB] using h)
          clear h100
          go_wp2_with fail
          go_meet
          exact ⟨by rw [← HE.out], rfl⟩
      case rest =>
        obtain ⟨rfl, rfl⟩ := hcut
        clear k1 HSX EX hi him hlt hltm
        generalize x.take 100 = y at *
        have hib : (i : Int) ≤ 100000 := by have := HIM.out; have := HM.out; omega
        go_wp2_with (at_builtin; refine append_any rfl _ _ 22 rfl w.heap.size 9 (.string ⟨#[]⟩) 1 16 Try.underlying22 infoS rfl (by omega) (by omega) u5 i (sv (fewOf L i)) rfl (HO.out.alloc _) _ 1 _ [.string (strB y)] rfl rfl (RC_newL _ [.string (strB y)] 9) (by intro u hu; simp at hu; rw [hu]; rfl) ?c1 ?c2 ?_)
        case c1 => have := HIM.out; have := HM.out; omega
        case c2 => have := HB.out.size; simp; omega
        intro v6 w6 ho6 hg6 hat6
        have HO6 := Lib.hid (show w6.ownsRow w.heap.size 9 1 v6 (i + 1) (sv (fewOf L (i + 1))) by rw [HT.out, sv_append]; exact ho6)
        have HB6 := Lib.hid (((HB.out.alloc HB.out.size _).grown hg6 (by have := HB.out.size; simp; omega) (fun k hk => (World.ownsRow.lt HO.out k hk).1) : Below w.heap.size w w6))
        clear ho6 hg6 hat6
        go_wp2_with fail
        go_roundg (most - (i + 1))
        case measure => have := HK.out; have := HLTM.out; omega
        case rel => exact ⟨i + 1, HLT.out, HLTM.out, rfl, by go_num, HO6.out, HB6.out⟩
    · have hd2 : ¬ (i < L.length) ∨ ¬ (i < most) := by omega
      have hmi : min most L.length = i := by omega
      have hfe : fewOf L most = fewOf L i := by
        unfold fewOf
        by_cases h : i < most
        · have h2 : i = L.length := by omega
          rw [List.take_of_length_le (by omega), List.take_of_length_le (by omega)]
        · rw [show most = i by omega]
      have HD2 := Lib.hid hd2
      have HMI := Lib.hid hmi
      have HFE := Lib.hid hfe
      clear hd2 hlt hmi hfe
      by_cases hA : i < L.length
      · have h61 : ¬ ((i : Int) < (most : Int)) := by have := HD2.out; omega
        have h60 : decide ((i : Int) < (most : Int)) = false := by simpa using h61
        go_wp2_with fail
        go_ret
        exact ⟨_, rfl, by rw [HMI.out, HFE.out]; exact HO.out, HB.out⟩
      · have hA' : decide ((i : Int) < (L.length : Int)) = false := by simp; omega
        go_wp2_with fail
        go_ret
        exact ⟨_, rfl, by rw [HMI.out, HFE.out]; exact HO.out, HB.out⟩

theorem lk_range {w : World} {b o : Nat} {M : List (List UInt8 × List UInt8)} (hh : ∀ x ∈ M, x.2.length = 32) (hc : ∀ j u, (lv M)[j]? = some u → w.cell? ⟨b, o + j, none⟩ = some u) (i : Nat) (hi : i < M.length) : w.rangeAt b (o + i * 33) (lk M[i]) := by
  intro j v hj
  have h2 := lk_length M[i] (hh _ (List.getElem_mem hi))
  have hj' := (List.getElem?_eq_some_iff.1 hj).1
  rw [Nat.add_assoc]
  exact hc _ _ ((lv_get M hh i hi j (by omega)).trans hj)

set_option maxRecDepth 100000 in
set_option maxHeartbeats 4000000 in
theorem chainTexts_any (A : Option Addr) (n c : Nat) (M : List (List UInt8 × List UInt8)) (w : World) (hl : M.length = n) (hn : n ≤ 100000) (hh : ∀ x ∈ M, x.2.length = 32) (hr : RC w A (lv M)) :
    Calls Try.prog 21 #[.slice A n c] w fun e w' => ∃ v, e = .returned v ∧ w'.ownsRow w.heap.size 9 1 v M.length (sv (M.map (·.1))) ∧ Below w.heap.size w w' := by
  subst hl
  have HL := Lib.hid hr
  have HH := Lib.hid hh
  have HN := Lib.hid hn
  clear hr hh
  obtain ⟨T, hT⟩ : ∃ T, T = M.map (·.1) := ⟨_, rfl⟩
  rw [← hT]
  have hTl : T.length = M.length := by rw [hT, List.length_map]
  have hTg : ∀ i (h : i < M.length), T.take (i + 1) = T.take i ++ [M[i].1] := fun i h => by
    rw [List.take_succ_eq_append_getElem (by omega)]
    simp [hT]
  have HTL := Lib.hid hTl
  have HTG := Lib.hid hTg
  clear hT hTl hTg
  obtain ⟨z33, hz33⟩ : ∃ z33, z33 = (lk ([], hd0)).toArray := ⟨_, rfl⟩
  go_enter Try.func21, Try.ntmps21
  go_wp2_with fail
  go_loopg [3, 8] M.length (fun k s3 s8 wr => ∃ i : Nat, i ≤ M.length ∧ k = M.length - i ∧ s8 = .int .i64 (i : Int) ∧ wr.ownsRow w.heap.size 9 1 s3 i (sv (T.take i)) ∧ Below w.heap.size w wr)
  case atStart => exact ⟨0, Nat.zero_le _, by omega, rfl, World.ownsRow_nil _ _ _ _, Below.refl _ _⟩
  case round =>
    obtain ⟨i, hi, hk, rfl, ho, hb⟩ := hrel
    have HK := Lib.hid hk
    have HO := Lib.hid ho
    have HB := Lib.hid hb
    clear hk ho hb
    by_cases hlt : i < M.length
    · obtain ⟨bl, ol, rfl, e1⟩ := HL.out.parts (by rw [lv_length M HH.out]; omega)
      have HRG := Lib.hid (lk_range HH.out (fun j u hj => cell_below HB.out (e1 j u hj)) i hlt)
      have hhl := HH.out _ (List.getElem_mem hlt)
      have HT := Lib.hid (HTG.out i hlt)
      generalize M[i] = x at *
      have hlkl := lk_length x hhl
      obtain ⟨lc, elc⟩ : ∃ lc, lc = lk x := ⟨_, rfl⟩
      have hfst : lc = .string (strB x.1) :: bv x.2 := elc
      rw [← elc] at hlkl HRG
      have hil : (Try.prog.info? 30).map (·.size) = some lc.length := by rw [hlkl]; exact info33
      have hone : lc.toArray.all (·.oneCell') = true := by rw [elc]; exact all_oneCell_toArray (lk_one x)
      have hi0 : (0 : Int) ≤ (i : Int) := by omega
      have hi1 : (i : Int) < (M.length : Int) := by omega
      have HLT := Lib.hid hlt
      have HIL := Lib.hid hil
      have HLKL := Lib.hid hlkl
      have HONE := Lib.hid hone
      have HFST := Lib.hid hfst
      have HII := Lib.hid hi
      clear e1 hhl hil hlkl hone hfst elc hlt hi
      go_upto_region 4 with fail
      refine wp_region_lit ?_
      refine Great.wpList_readTo rfl _ rfl (.pointer (some ⟨bl, ol + i * 33, none⟩)) ?h1 ?_
      case h1 =>
        simp only [execOp]
        go_simp
      refine wpList_load_mid rfl 30 (.tmp 10) rfl bl (ol + i * 33) rfl lc _ HRG.out Try.underlying30 rfl HIL.out ?_
      obtain ⟨z, hz⟩ : ∃ z, z = wr.heap.size := ⟨_, rfl⟩
      refine Great.wpList_allocTo rfl _ rfl (.pointer (some ⟨z, 0, none⟩)) (.cells z33 30) ?h2 ?_
      case h2 => rw [hz33, hz]; kernel_rfl
      refine wpList_store_row rfl 30 (.tmp 5) (.tmp 11) rfl z lc.toArray rfl rfl 30 z33 (by rw [hz]; exact heap_alloc_new wr _) (by rw [List.size_toArray]; exact HIL.out) (by rw [hz33, List.size_toArray, List.size_toArray, HLKL.out]; rfl) HONE.out ?_
      refine wpList_nil ?_
      rename_i hK
      refine hK _ _ ?_
      clear hK
      obtain ⟨w5, hw5⟩ : ∃ w5, w5 = (wr.alloc (.cells z33 30)).setRow z lc.toArray := ⟨_, rfl⟩
      rw [← hw5]
      have hz5 : w5.heap[z]? = some (.cells lc.toArray 30) := by rw [hw5, hz]; exact setRow_heap _ _ _ _ _ _ (heap_alloc_new wr _)
      have cz : w5.cell? ⟨z, 0, none⟩ = some (.string (strB x.1)) := by
        rw [cell_of_row w5 z 0 _ _ _ hz5, HFST.out]
        rfl
      have HB5 := Lib.hid (show Below wr.heap.size wr w5 by rw [hw5]; exact below_setRow ((Below.refl _ _).alloc (Nat.le_refl _) _) _ _ (by omega))
      have HO5 := Lib.hid (own_below HO.out HB5.out)
      have HBB := Lib.hid (below_below HB.out HB.out.size HB5.out)
      clear hw5 hz5 hz
      go_wp2_with (at_builtin; refine append_any rfl _ _ 22 rfl w.heap.size 9 (.string ⟨#[]⟩) 1 16 Try.underlying22 infoS rfl (by omega) (by omega) u3 i (sv (T.take i)) rfl (HO5.out.alloc _) _ 1 _ [.string (strB x.1)] rfl rfl (RC_newL _ [.string (strB x.1)] 9) (by intro u hu; simp at hu; rw [hu]; rfl) ?c1 ?c2 ?_)
      case c1 => have := HN.out; have := HII.out; omega
      case c2 => have := HBB.out.size; simp; omega
      intro v6 w6 ho6 hg6 hat6
      have HO6 := Lib.hid (show w6.ownsRow w.heap.size 9 1 v6 (i + 1) (sv (T.take (i + 1))) by rw [HT.out, sv_append]; exact ho6)
      have HB6 := Lib.hid (((HBB.out.alloc HBB.out.size _).grown hg6 (by have := HBB.out.size; simp; omega) (fun k hk => (World.ownsRow.lt HO5.out k hk).1) : Below w.heap.size w w6))
      clear ho6 hg6 hat6
      go_wp2_with fail
      go_roundg (M.length - (i + 1))
      case measure => have := HK.out; have := HLT.out; omega
      case rel => exact ⟨i + 1, HLT.out, rfl, by go_num, HO6.out, HB6.out⟩
    · obtain rfl : i = M.length := by omega
      rw [List.take_of_length_le (by rw [HTL.out]; exact Nat.le_refl _)] at HO
      go_wp2_with fail
      go_ret
      exact ⟨_, rfl, HO.out, HB.out⟩

end Go.Proofs.Ythlbmjjodjepjaa
