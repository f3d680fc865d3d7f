/-
  The texts Out20 of this proof in one (what is used of them): what each proves is said at its head. No conditions beyond those that each theorem says.
-/
import Derived.Test.YtjakhemolecbnaaNF

/-
  The walk of Outcomes.
-/
section
set_option linter.unusedVariables false
set_option linter.unusedSimpArgs false
namespace Go.Proofs.Ytjakhemolecbnaa
open Go.RowKit

/-- Whether a text is a record of a kind and a transaction. -/
def recO (k : Int) (tx s : List UInt8) : Bool := match readS s with | some r => decide (r.tx = tx) && decide (r.kind = k) | none => false
def hasO (k : Int) (tx : List UInt8) (M : Lks) : Bool := M.any fun x => recO k tx x.1
def linksD (l : List UInt8) : Lks := match decS l with | .inl _ => [] | .inr M => M
def anyO (k : Int) (tx : List UInt8) (L : List Cl) : Bool := L.any fun x => hasO k tx (linksD x.l)
def outS (tx : List UInt8) (L : List Cl) : List Int := (if anyO 3 tx L = true then [1] else []) ++ (if anyO 4 tx L = true then [2] else [])
theorem any_take {α : Type} (p : α → Bool) (l : List α) (i : Nat) (x : α) (h : l[i]? = some x) : (l.take (i + 1)).any p = ((l.take i).any p || p x) := by
  obtain ⟨hi, rfl⟩ := List.getElem?_eq_some_iff.1 h
  rw [List.take_succ_eq_append_getElem hi, List.any_append]
  simp

theorem decode_l (A : Option Addr) (n c : Nat) (l : List UInt8) (w : World) (hl : l.length = n) (hll : l.length ≤ 17000000) (hr : RB w A l) (hnil : A = none → c = 0) :
    Calls Try.prog 36 #[.slice A n c] w fun e w' => Below w.heap.size w w' ∧ ∃ (bl : Option Addr) (cl : Nat) (why en : Int), e = .returned (.tuple #[.slice bl (linksD l).length cl, .int .i64 why, .int .i64 en]) ∧ w'.ownsRow w.heap.size 92 33 (.slice bl (linksD l).length cl) (linksD l).length (lv (linksD l)) ∧ (∀ x ∈ linksD l, x.2.length = 32) ∧ (∀ x ∈ linksD l, x.1.length ≤ 4000) ∧ (linksD l).length ≤ 4096 := by
  refine (decode_g A n c l w hl hll hr hnil).mono ?_
  rintro e w' ⟨hb, hd⟩
  refine ⟨hb, ?_⟩
  rcases hd with ⟨why, en, hde, rfl⟩ | ⟨M, v, hde, rfl, hvo, hMh, hMt, hMl⟩
  · have e0 : linksD l = [] := by unfold linksD; rw [hde]
    rw [e0]
    exact ⟨none, 0, why, en, rfl, World.ownsRow_nil _ _ _ _, (fun x hx => by cases hx), (fun x hx => by cases hx), Nat.zero_le _⟩
  · have e0 : linksD l = M := by unfold linksD; rw [hde]
    rw [e0]
    obtain ⟨bl, cl, rfl, hcl⟩ := own_slice hvo
    exact ⟨bl, cl, 0, 0, rfl, hvo, hMh, hMt, hMl⟩

set_option maxRecDepth 100000 in
set_option maxHeartbeats 8000000 in
theorem outcomes_any (A : Option Addr) (n c : Nat) (L : List Cl) (tx : List UInt8) (w : World) (hl : L.length = n) (hn : n ≤ 1000) (hr : ClsAt w A L) :
    Calls Try.prog 14 #[.slice A n c, .string (strB tx)] w fun e w' => ∃ A' c', e = .returned (.slice A' (outS tx L).length c') ∧ Below w.heap.size w w' ∧ RG w' A' (outS tx L) := by
  subst hl
  have HR := Lib.hid hr
  have HN := Lib.hid hn
  obtain ⟨z33, hz33⟩ : ∃ z33, z33 = (lk ([], hd0)).toArray := ⟨_, rfl⟩
  have HZ33 := Lib.hid hz33
  obtain ⟨zt, hzt⟩ : ∃ zt, zt = strB tx := ⟨_, rfl⟩
  rw [← hzt]
  have HZT := Lib.hid hzt
  clear hz33 hr hn hzt
  go_enter Try.func14, Try.ntmps14
  go_wp2_with fail
  go_loopg [5, 6, 19] L.length (fun k s5 s6 s19 wr => ∃ i : Nat, i ≤ L.length ∧ k = L.length - i ∧ s5 = .bool (anyO 3 tx (L.take i)) ∧ s6 = .bool (anyO 4 tx (L.take i)) ∧ s19 = .int .i64 (i : Int) ∧ Below w.heap.size w wr)
  case atStart => exact ⟨0, Nat.zero_le _, by omega, rfl, rfl, rfl, Below.refl _ _⟩
  case round =>
    obtain ⟨i, hi, hk, rfl, rfl, rfl, hb⟩ := hrel
    have HK := Lib.hid hk
    have HB := Lib.hid hb
    clear hk hb
    have hi2 : (i : Int) ≤ 1000 := by have := HN.out; omega
    by_cases hlt : i < L.length
    · obtain ⟨x, hx⟩ : ∃ x, L[i]? = some x := ⟨_, List.getElem?_eq_getElem hlt⟩
      have HXM := Lib.hid (List.mem_of_getElem? hx)
      have T3 := Lib.hid (show anyO 3 tx (L.take (i + 1)) = (anyO 3 tx (L.take i) || hasO 3 tx (linksD x.l)) from any_take _ L i x hx)
      have T4 := Lib.hid (show anyO 4 tx (L.take (i + 1)) = (anyO 4 tx (L.take i) || hasO 4 tx (linksD x.l)) from any_take _ L i x hx)
      obtain ⟨b1, o1, rfl, e1⟩ := (HR.out.r).part (by rw [clc_length]; omega)
      have q0 : wr.cell? ⟨b1, o1 + i * 2, none⟩ = some (.int .i64 x.g) := cell_below HB.out (e1 _ _ ((clc_get L i x hx 0 (by omega)).trans rfl))
      have q1 : wr.cell? ⟨b1, o1 + i * 2 + 1, none⟩ = some (.slice x.A x.l.length x.c) := by
        rw [Nat.add_assoc]
        exact cell_below HB.out (e1 _ _ ((clc_get L i x hx 1 (by omega)).trans rfl))
      have hi0 : (0 : Int) ≤ (i : Int) := by omega
      have hi1 : (i : Int) < (L.length : Int) := by omega
      have hb5 : Below wr.heap.size wr (wr.alloc (.cells #[.int .i64 x.g, .slice x.A x.l.length x.c] 27)) := (Below.refl _ _).alloc (Nat.le_refl _) _
      have hx5 := heap_alloc_new wr (.cells #[.int .i64 x.g, .slice x.A x.l.length x.c] 27)
      obtain ⟨w5, hw5⟩ : ∃ w5, w5 = wr.alloc (.cells #[.int .i64 x.g, .slice x.A x.l.length x.c] 27) := ⟨_, rfl⟩
      rw [← hw5] at hb5 hx5
      obtain ⟨g6, hg6⟩ : ∃ g6, g6 = wr.heap.size := ⟨_, rfl⟩
      have HXB := Lib.hid (show RB w5 x.A x.l ∧ (x.A = none → x.c = 0) ∧ x.l.length ≤ 17000000 by
        have h := HR.out.b x HXM.out
        exact ⟨(h.1.below HB.out).below hb5, h.2.1, h.2.2⟩)
      obtain ⟨xg, xA, xc, xl⟩ := x
      dsimp only at *
      rw [← hg6] at hx5
      have HW5 := Lib.hid hw5
      have HG6 := Lib.hid hg6
      have HB5 := Lib.hid (below_below HB.out HB.out.size hb5)
      have k1 : w5.cell? ⟨g6, 1, none⟩ = some (.slice xA xl.length xc) := (cell_of_row w5 g6 1 _ _ _ hx5).trans rfl
      have HLT := Lib.hid hlt
      clear hx e1 hb5 hx5 hw5 hg6 hlt hi
      go_upto_region 5 with fail
      rw [show wr.alloc (.cells #[.int .i64 xg, .slice xA xl.length xc] 27) = w5 from HW5.out.symm, ← HG6.out]
      go_wp2_with fail
      refine (decode_l xA _ xc xl w5 rfl HXB.out.2.2 HXB.out.1 HXB.out.2.1).mono ?_
      rintro e w6 ⟨hb6, bl, cl, why, en, rfl, hvo, hMh, hMt, hMl⟩
      generalize linksD xl = M at *
      have HB6 := Lib.hid (below_below HB5.out HB5.out.size hb6)
      have HVO := Lib.hid hvo
      have HMH := Lib.hid hMh
      have HMT := Lib.hid hMt
      have HML := Lib.hid hMl
      generalize anyO 3 tx (L.take i) = c3 at *
      generalize anyO 4 tx (L.take i) = c4 at *
      clear hb6 hvo hMh hMt hMl k1 q0 q1
      go_wp2_with fail
      go_loopg [5, 6, 32] M.length (fun k s5 s6 s32 wx => ∃ j : Nat, j ≤ M.length ∧ k = M.length - j ∧ s5 = .bool (c3 || hasO 3 tx (M.take j)) ∧ s6 = .bool (c4 || hasO 4 tx (M.take j)) ∧ s32 = .int .i64 (j : Int) ∧ Below w6.heap.size w6 wx)
      case atStart => exact ⟨0, Nat.zero_le _, by omega, by simp [hasO], by simp [hasO], rfl, Below.refl _ _⟩
      case round =>
        obtain ⟨j, hj, hk, rfl, rfl, rfl, hb⟩ := hrel
        have HK2 := Lib.hid hk
        have HBX := Lib.hid hb
        clear hk hb
        have hj2 : (j : Int) ≤ 4096 := by have := HML.out; omega
        by_cases hlt2 : j < M.length
        · obtain ⟨b2, o2, rfl, e2⟩ := (own_RC (own_below HVO.out HBX.out)).parts (by rw [lv_length M HMH.out]; omega)
          have HRG := Lib.hid (lk_range HMH.out e2 j hlt2)
          have hhl := HMH.out _ (List.getElem_mem hlt2)
          have htl := HMT.out _ (List.getElem_mem hlt2)
          have U3 := Lib.hid (show hasO 3 tx (M.take (j + 1)) = (hasO 3 tx (M.take j) || recO 3 tx M[j].1) from any_take _ M j _ (List.getElem?_eq_getElem hlt2))
          have U4 := Lib.hid (show hasO 4 tx (M.take (j + 1)) = (hasO 4 tx (M.take j) || recO 4 tx M[j].1) from any_take _ M j _ (List.getElem?_eq_getElem hlt2))
          obtain ⟨d3, hd3⟩ : ∃ d3, d3 = (c3 || hasO 3 tx (M.take j)) := ⟨_, rfl⟩
          obtain ⟨d4, hd4⟩ : ∃ d4, d4 = (c4 || hasO 4 tx (M.take j)) := ⟨_, rfl⟩
          have V3 := Lib.hid (show (c3 || hasO 3 tx (M.take (j + 1))) = (d3 || recO 3 tx M[j].1) by rw [U3.out, hd3, Bool.or_assoc])
          have V4 := Lib.hid (show (c4 || hasO 4 tx (M.take (j + 1))) = (d4 || recO 4 tx M[j].1) by rw [U4.out, hd4, Bool.or_assoc])
          rw [← hd3, ← hd4]
          clear U3 U4 hd3 hd4
          generalize M[j] = x at *
          have hlkl := lk_length x hhl
          obtain ⟨lc, elc⟩ : ∃ lc, lc = lk x := ⟨_, rfl⟩
          have hfst : lc = .string (strB x.1) :: bv x.2 := elc
          rw [← elc] at hlkl HRG
          have hil : (Try.prog.info? 92).map (·.size) = some lc.length := by rw [hlkl]; exact info33
          have hone : lc.toArray.all (·.oneCell') = true := by rw [elc]; exact all_oneCell_toArray (lk_one x)
          have hj0 : (0 : Int) ≤ (j : Int) := by omega
          have hj1 : (j : Int) < (M.length : Int) := by omega
          have HLT2 := Lib.hid hlt2
          have HIL := Lib.hid hil
          have HLKL := Lib.hid hlkl
          have HONE := Lib.hid hone
          have HFST := Lib.hid hfst
          have HTL := Lib.hid htl
          clear e2 hhl htl hil hlkl hone hfst elc hlt2 hj
          go_upto_region 8 with fail
          refine wp_region_lit ?_
          refine Great.wpList_readTo rfl _ rfl (.pointer (some ⟨b2, o2 + j * 33, none⟩)) ?h1 ?_
          case h1 =>
            simp only [execOp]
            go_simp
          refine wpList_load_mid rfl 92 (.tmp 34) rfl b2 (o2 + j * 33) rfl lc _ HRG.out Try.underlying92 rfl HIL.out ?_
          obtain ⟨z, hz⟩ : ∃ z, z = wr.heap.size := ⟨_, rfl⟩
          refine Great.wpList_allocTo rfl _ rfl (.pointer (some ⟨z, 0, none⟩)) (.cells z33 92) ?h2 ?_
          case h2 => rw [HZ33.out, hz]; kernel_rfl
          refine wpList_store_row rfl 92 (.tmp 13) (.tmp 35) rfl z lc.toArray rfl rfl 92 z33 (by rw [hz]; exact heap_alloc_new wr _) (by rw [List.size_toArray]; exact HIL.out) (by rw [HZ33.out, List.size_toArray, List.size_toArray, HLKL.out]; rfl) HONE.out ?_
          refine wpList_nil ?_
          rename_i hK
          refine hK _ _ ?_
          clear hK
          obtain ⟨w7, hw7⟩ : ∃ w7, w7 = (wr.alloc (.cells z33 92)).setRow z lc.toArray := ⟨_, rfl⟩
          rw [← hw7]
          have hz7 : w7.heap[z]? = some (.cells lc.toArray 92) := by rw [hw7, hz]; exact setRow_heap _ _ _ _ _ _ (heap_alloc_new wr _)
          have cz : w7.cell? ⟨z, 0, none⟩ = some (.string (strB x.1)) := by
            rw [cell_of_row w7 z 0 _ _ _ hz7, HFST.out]
            rfl
          have HB7 := Lib.hid (below_below HBX.out HBX.out.size (show Below wr.heap.size wr w7 by rw [hw7]; exact below_setRow ((Below.refl _ _).alloc (Nat.le_refl _) _) _ _ (by omega)))
          clear hw7 hz7 hz
          go_wp2_with fail
          refine (read_any x.1 w7 (by have := HTL.out; omega)).mono ?_
          rintro e w8 ⟨hb8, hres⟩
          have HB8 := Lib.hid (below_below HB7.out HB7.out.size hb8)
          clear hb8 cz
          rcases hres with ⟨hrn, rfl⟩ | ⟨r, Ar, cr, hrs, rfl, hro⟩
          · unfold recZ
            have R3 := Lib.hid (show recO 3 tx x.1 = false by unfold recO; rw [hrn])
            have R4 := Lib.hid (show recO 4 tx x.1 = false by unfold recO; rw [hrn])
            clear hrn
            go_wp2_with fail
            go_roundg (M.length - (j + 1))
            case measure => have := HK2.out; have := HLT2.out; omega
            case rel =>
              refine ⟨j + 1, HLT2.out, rfl, ?_, ?_, by go_num, HB8.out.alloc (by have := HB8.out.size; omega) _⟩
              · rw [V3.out, R3.out, Bool.or_false]
              · rw [V4.out, R4.out, Bool.or_false]
          · obtain ⟨rk, rt, rg, rb⟩ := r
            have R3 := Lib.hid (show recO 3 tx x.1 = (decide (rt = tx) && (rk == 3)) by unfold recO; rw [hrs]; rfl)
            have R4 := Lib.hid (show recO 4 tx x.1 = (decide (rt = tx) && (rk == 4)) by unfold recO; rw [hrs]; rfl)
            unfold Rp.m Rm.cells
            dsimp only
            obtain ⟨zr, hzr⟩ : ∃ zr, zr = strB rt := ⟨_, rfl⟩
            obtain ⟨zb, hzb⟩ : ∃ zb, zb = strB rb := ⟨_, rfl⟩
            rw [← hzr, ← hzb]
            have HRO := Lib.hid hro
            have HZR := Lib.hid hzr
            clear hrs hro hzr hzb
            by_cases ht : rt = tx
            · have e3 := R3.out
              have e4 := R4.out
              rw [decide_eq_true ht, Bool.true_and] at e3 e4
              obtain rfl : zr = zt := by rw [HZR.out, HZT.out, ht]
              have E3 := Lib.hid e3
              have E4 := Lib.hid e4
              clear e3 e4 ht
              cases d3 <;> cases d4
              all_goals
                go_wp2_with fail
                go_roundg (M.length - (j + 1))
                case measure => have := HK2.out; have := HLT2.out; omega
                case rel =>
                  refine ⟨j + 1, HLT2.out, rfl, ?_, ?_, by go_num, HB8.out.alloc (by have := HB8.out.size; omega) _⟩
                  · rw [V3.out, E3.out]; simp
                  · rw [V4.out, E4.out]; simp
            · have e3 := R3.out
              have e4 := R4.out
              rw [decide_eq_false ht, Bool.false_and] at e3 e4
              have hzf : (zr.toList == zt.toList) = false := by
                rw [HZR.out, HZT.out, ByteArray.toList_eq, ByteArray.toList_eq, strB_toList, strB_toList]
                simpa using ht
              have E3 := Lib.hid e3
              have E4 := Lib.hid e4
              clear e3 e4 ht
              go_wp2_with fail
              go_roundg (M.length - (j + 1))
              case measure => have := HK2.out; have := HLT2.out; omega
              case rel =>
                refine ⟨j + 1, HLT2.out, rfl, ?_, ?_, by go_num, HB8.out.alloc (by have := HB8.out.size; omega) _⟩
                · rw [V3.out, E3.out, Bool.or_false]
                · rw [V4.out, E4.out, Bool.or_false]
        · obtain rfl : j = M.length := by omega
          rw [List.take_length]
          clear hlt2 hj
          go_wp2_with fail
          go_roundg (L.length - (i + 1))
          case measure => have := HK.out; have := HLT.out; omega
          case rel => have := HLT.out; have := HN.out; exact ⟨i + 1, HLT.out, rfl, by rw [T3.out], by rw [T4.out], by go_num, below_below HB6.out HB6.out.size HBX.out⟩
    · obtain rfl : i = L.length := by omega
      rw [List.take_length]
      obtain ⟨c3, h3⟩ : ∃ c3, c3 = anyO 3 tx L := ⟨_, rfl⟩
      obtain ⟨c4, h4⟩ : ∃ c4, c4 = anyO 4 tx L := ⟨_, rfl⟩
      rw [← h3, ← h4]
      have H3 := Lib.hid h3
      have H4 := Lib.hid h4
      have HO := Lib.hid (show outS tx L = (if c3 = true then [1] else []) ++ (if c4 = true then [2] else []) by rw [h3, h4]; rfl)
      clear hlt hi h3 h4
      cases c3 <;> cases c4
      · go_wp2_with fail
        go_ret
        rw [HO.out]
        exact ⟨none, 0, rfl, HB.out, fun h => absurd h (by simp)⟩
      · go_wp2_with (at_builtin; refine append_any rfl _ _ 22 rfl wr.heap.size 3 (.int .i64 0) 1 8 Try.underlying22 infoI rfl (by omega) (by omega) _ 0 [] rfl (World.ownsRow_nil _ _ _ _) _ 1 _ [.int .i64 2] rfl rfl (RC_newL _ [.int .i64 2] 3) (by intro u hu; simp at hu; rw [hu]; rfl) (by decide) (by simp) ?_)
        intro v6 w6 ho6 hg6 hat6
        obtain ⟨A6, c6, rfl, hc6⟩ := own_slice ho6
        have hb6 : Below w.heap.size w w6 := (HB.out.alloc HB.out.size _).grown hg6 (by have := HB.out.size; simp; omega) (fun k hk => by cases hk)
        have HO6 := Lib.hid ho6
        have HB6 := Lib.hid hb6
        clear ho6 hg6 hat6 hb6 hc6
        go_wp2_with fail
        go_ret
        rw [HO.out]
        exact ⟨A6, c6, rfl, HB6.out, own_RC HO6.out⟩
      · go_wp2_with (at_builtin; refine append_any rfl _ _ 22 rfl wr.heap.size 3 (.int .i64 0) 1 8 Try.underlying22 infoI rfl (by omega) (by omega) _ 0 [] rfl (World.ownsRow_nil _ _ _ _) _ 1 _ [.int .i64 1] rfl rfl (RC_newL _ [.int .i64 1] 3) (by intro u hu; simp at hu; rw [hu]; rfl) (by decide) (by simp) ?_)
        intro v6 w6 ho6 hg6 hat6
        obtain ⟨A6, c6, rfl, hc6⟩ := own_slice ho6
        have hb6 : Below w.heap.size w w6 := (HB.out.alloc HB.out.size _).grown hg6 (by have := HB.out.size; simp; omega) (fun k hk => by cases hk)
        have HO6 := Lib.hid ho6
        have HB6 := Lib.hid hb6
        clear ho6 hg6 hat6 hb6 hc6
        go_wp2_with fail
        go_ret
        rw [HO.out]
        exact ⟨A6, c6, rfl, HB6.out, own_RC HO6.out⟩
      · go_wp2_with (at_builtin; refine append_any rfl _ _ 22 rfl wr.heap.size 3 (.int .i64 0) 1 8 Try.underlying22 infoI rfl (by omega) (by omega) _ 0 [] rfl (World.ownsRow_nil _ _ _ _) _ 1 _ [.int .i64 1] rfl rfl (RC_newL _ [.int .i64 1] 3) (by intro u hu; simp at hu; rw [hu]; rfl) (by decide) (by simp) ?_)
        intro v6 w6 ho6 hg6 hat6
        obtain ⟨A6, c6, rfl, hc6⟩ := own_slice ho6
        have hb6 : Below w.heap.size w w6 := (HB.out.alloc HB.out.size _).grown hg6 (by have := HB.out.size; simp; omega) (fun k hk => by cases hk)
        have HO6 := Lib.hid ho6
        have HB6 := Lib.hid hb6
        have HS6 := Lib.hid (show wr.heap.size ≤ w6.heap.size by have := hg6.size; simp at this; omega)
        clear ho6 hg6 hat6 hb6 hc6
        go_wp2_with (at_builtin; refine append_any rfl _ _ 22 rfl wr.heap.size 3 (.int .i64 0) 1 8 Try.underlying22 infoI rfl (by omega) (by omega) _ 1 [.int .i64 1] rfl (HO6.out.alloc _) _ 1 _ [.int .i64 2] rfl rfl (RC_newL _ [.int .i64 2] 3) (by intro u hu; simp at hu; rw [hu]; rfl) (by decide) (by have := HS6.out; simp; omega) ?_)
        intro v7 w7 ho7 hg7 hat7
        obtain ⟨A7, c7, rfl, hc7⟩ := own_slice ho7
        have hb7 : Below w.heap.size w w7 := (HB6.out.alloc HB6.out.size _).grown hg7 (by have := HB6.out.size; simp; omega) (fun k hk => by have := (World.ownsRow.lt HO6.out k hk).1; have := HB.out.size; omega)
        have HO7 := Lib.hid ho7
        have HB7 := Lib.hid hb7
        clear ho7 hg7 hat7 hb7 hc7
        go_wp2_with fail
        go_ret
        rw [HO.out]
        exact ⟨A7, c7, rfl, HB7.out, own_RC HO7.out⟩
end Go.Proofs.Ytjakhemolecbnaa
end
