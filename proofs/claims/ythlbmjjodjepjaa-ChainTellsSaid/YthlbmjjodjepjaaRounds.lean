/-
  The walk of sum.rounds.
-/
import Derived.Test.YthlbmjjodjepjaaSpread
import Derived.Great.Walk
import Derived.Test.YthlbmjjodjepjaaCrc
set_option linter.unusedVariables false
set_option linter.unusedSimpArgs false
namespace Go.Proofs.Ythlbmjjodjepjaa
open Go.RowKit

def rotz (x : UInt32) (z : Int) : UInt32 := rotr x (-z).toNat
theorem rotq (x : UInt32) (z : Int) (w : World) (hz : z = -6 ∨ z = -11 ∨ z = -25 ∨ z = -2 ∨ z = -13 ∨ z = -22) : Calls Try.prog 93 #[.int .u32 (un32 x), .int .i64 z] w fun e w' => e = .returned (.int .u32 (un32 (rotz x z))) ∧ w' = w := by
  rcases hz with rfl | rfl | rfl | rfl | rfl | rfl
  · exact (rot_6 x w).mono fun _ _ h => ⟨h.1, h.2.symm⟩
  · exact (rot_11 x w).mono fun _ _ h => ⟨h.1, h.2.symm⟩
  · exact (rot_25 x w).mono fun _ _ h => ⟨h.1, h.2.symm⟩
  · exact (rot_2 x w).mono fun _ _ h => ⟨h.1, h.2.symm⟩
  · exact (rot_13 x w).mono fun _ _ h => ⟨h.1, h.2.symm⟩
  · exact (rot_22 x w).mono fun _ _ h => ⟨h.1, h.2.symm⟩

/-- The memory of rounds: the state h, the words, the constants, the copy v. -/
structure RSt (w wr : World) (g : Nat) (hs : List UInt32) (ws : List UInt32) (v : St) : Prop where
  a0 : Arr wr g 115 (wv hs)
  a1 : Arr wr w.heap.size 118 (wv ws)
  a2 : Arr wr (w.heap.size + 1) 118 (wv shaK)
  a3 : Arr wr (w.heap.size + 2) 115 (wv v.list)
  u : Upd (fun k => k = g) w wr
  lt : g < w.heap.size
theorem RSt.drew {w wr : World} {g : Nat} {hs ws : List UInt32} {v : St} (h : RSt w wr g hs ws v) : RSt w wr.drew g hs ws v := ⟨h.a0, h.a1, h.a2, h.a3, h.u.drew, h.lt⟩
theorem RSt.drewN {w wr : World} {g : Nat} {hs ws : List UInt32} {v : St} (h : RSt w wr g hs ws v) (n : Nat) : RSt w (wr.drewN n) g hs ws v := ⟨h.a0, h.a1, h.a2, h.a3, h.u.drewN n, h.lt⟩
theorem RSt.turn {w wr : World} {g : Nat} {hs ws : List UInt32} {v : St} (h : RSt w wr g hs ws v) (v' : St) : RSt w (wr.setRow (w.heap.size + 2) (wv v'.list).toArray) g hs ws v' := by
  have := h.lt
  exact ⟨h.a0.setRow_other _ _ (by omega), h.a1.setRow_other _ _ (by omega), h.a2.setRow_other _ _ (by omega), h.a3.setRow _, upd_setRow h.u _ _ (by omega), h.lt⟩
theorem RSt.cells {w wr : World} {g : Nat} {hs ws : List UInt32} {a b c d e f h7 h8 : UInt32} (h : RSt w wr g hs ws ⟨a, b, c, d, e, f, h7, h8⟩) :
    wr.cell? ⟨w.heap.size + 2, 0, none⟩ = some (.int .u32 (un32 a)) ∧ wr.cell? ⟨w.heap.size + 2, 1, none⟩ = some (.int .u32 (un32 b)) ∧ wr.cell? ⟨w.heap.size + 2, 2, none⟩ = some (.int .u32 (un32 c)) ∧
    wr.cell? ⟨w.heap.size + 2, 3, none⟩ = some (.int .u32 (un32 d)) ∧ wr.cell? ⟨w.heap.size + 2, 4, none⟩ = some (.int .u32 (un32 e)) ∧ wr.cell? ⟨w.heap.size + 2, 5, none⟩ = some (.int .u32 (un32 f)) ∧
    wr.cell? ⟨w.heap.size + 2, 6, none⟩ = some (.int .u32 (un32 h7)) ∧ wr.cell? ⟨w.heap.size + 2, 7, none⟩ = some (.int .u32 (un32 h8)) :=
  ⟨h.a3.cell (i := 0) rfl, h.a3.cell (i := 1) rfl, h.a3.cell (i := 2) rfl, h.a3.cell (i := 3) rfl, h.a3.cell (i := 4) rfl, h.a3.cell (i := 5) rfl, h.a3.cell (i := 6) rfl, h.a3.cell (i := 7) rfl⟩
/-- The state's words when i of them are added to. -/
def mixL (l m : List UInt32) (i : Nat) : List UInt32 := (List.range 8).map fun j => if j < i then wd l j + wd m j else wd l j
theorem mixL_length (l m : List UInt32) (i : Nat) : (mixL l m i).length = 8 := by simp [mixL]
theorem mixL_zero (s v : St) : mixL s.list v.list 0 = s.list := rfl
theorem mixL_done (s v : St) : mixL s.list v.list 8 = (addSt s v).list := rfl
theorem mixL_at (l m : List UInt32) (i : Nat) (h : i < 8) : wd (mixL l m i) i = wd l i := by
  simp [wd, mixL, List.getElem?_range h]
theorem mixL_succ (l m : List UInt32) (i : Nat) (h : i < 8) : (mixL l m i).set i (wd l i + wd m i) = mixL l m (i + 1) := by
  apply List.ext_getElem?
  intro j
  rw [List.getElem?_set]
  by_cases hj : j < 8
  · by_cases e : i = j
    · subst e
      simp [mixL, hj]
    · have h1 : (j < i) = (j < i + 1) := by simp only [eq_iff_iff]; omega
      simp [mixL, hj, e, h1]
  · have h1 : ¬ i = j := by omega
    simp [mixL, hj, h1]
theorem RSt.add {w wr : World} {g : Nat} {hs ws : List UInt32} {v : St} (h : RSt w wr g hs ws v) (i : Nat) (x : UInt32) : RSt w (wr.setCell ⟨g, i, none⟩ (.int .u32 (un32 x))) g (hs.set i x) ws v := by
  have := h.lt
  exact ⟨by rw [← wv_set]; exact h.a0.set _ _, h.a1.set_other _ (by simp; omega) _, h.a2.set_other _ (by simp; omega) _, h.a3.set_other _ (by simp; omega) _, h.u.setCell (fun _ => rfl) _, h.lt⟩
theorem stSize (v : St) : (wv v.list).toArray.size = 8 := rfl
theorem info88 : (Try.prog.info? 115).map (·.size) = some 8 := by kernel_rfl
theorem ones32 (x : UInt32) : bits .xor .u32 (if IntKind.u32.signed = true then -1 else IntKind.u32.max) (un32 x) = un32 (x ^^^ 0xffffffff) := notOnes x

section
attribute [local go_sem] xor32 and32 add32 ones32
set_option maxRecDepth 100000 in
set_option maxHeartbeats 4000000 in
theorem rounds_any (g : Nat) (s : St) (ws : List UInt32) (w : World) (hl : ws.length = 64) (ha : Arr w g 115 (wv s.list)) :
    Calls Try.prog 82 #[.pointer (some ⟨g, 0, none⟩), .agg (wv ws).toArray] w fun e w' => e = .returned (.tuple #[]) ∧ Arr w' g 115 (wv (addSt s (roundsAt ws s 64)).list) ∧ Upd (fun k => k = g) w w' := by
  obtain ⟨cs, hcs⟩ : ∃ cs, cs = (wv ws).toArray := ⟨_, rfl⟩
  rw [← hcs]
  have HCS := Lib.hid hcs
  have HL := Lib.hid hl
  have HA := Lib.hid ha
  have hsz : cs.size = 64 := by rw [hcs, List.size_toArray, wv_length, hl]
  clear hcs hl ha
  go_enter Try.func82, Try.ntmps82
  go_upto_region 1 with fail
  refine wp_region_lit ?_
  obtain ⟨ks, hks⟩ : ∃ ks, ks = (wv shaK).toArray := ⟨_, rfl⟩
  obtain ⟨zs, hzs⟩ : ∃ zs, zs = (wv (List.replicate 64 0)).toArray := ⟨_, rfl⟩
  obtain ⟨z8, hz8⟩ : ∃ z8, z8 = (wv (List.replicate 8 0)).toArray := ⟨_, rfl⟩
  obtain ⟨ss, hss⟩ : ∃ ss, ss = (wv s.list).toArray := ⟨_, rfl⟩
  have hkz : (Try.prog.info? 118).map (·.size) = some ks.size := by rw [hks]; kernel_rfl
  have hkz8 : (Try.prog.info? 115).map (·.size) = some ss.size := by rw [hss, stSize]; exact info88
  refine Great.wpList_readTo rfl _ rfl (.agg ks) ?x0 ?_
  case x0 => rw [hks]; kernel_rfl
  refine Great.wpList_allocTo rfl _ rfl (.pointer (some ⟨w.heap.size + 1, 0, none⟩)) (.cells zs 118) ?x1 ?_
  case x1 => rw [hzs, show w.heap.size + 1 = (w.alloc (.cells cs 118)).heap.size by simp]; kernel_rfl
  refine wpList_store_row rfl 118 (.tmp 4) (.tmp 12) rfl (w.heap.size + 1) ks rfl rfl 118 zs (by rw [hzs]; exact Arr.new_at _ _ _ _ (by simp)) hkz (by rw [hzs, hks]; rfl) (by rw [hks]; exact all_oneCell_toArray (wv_one _)) ?_
  refine wpList_nil ?_
  rename_i hK
  refine hK _ _ ?_
  clear hK
  have hW : ∃ W, W = ((w.alloc (.cells cs 118)).alloc (.cells zs 118)).setRow (w.heap.size + 1) ks := ⟨_, rfl⟩
  obtain ⟨W, hW⟩ := hW
  rw [← hW]
  have hg : g < w.heap.size := HA.out.lt
  have hAg : Arr W g 115 (wv s.list) := by rw [hW]; exact ((HA.out.alloc _).alloc _).setRow_other _ _ (by omega)
  have hA0 : Arr W w.heap.size 118 (wv ws) := by
    rw [hW, HCS.out]; exact ((Arr.new w 118 (wv ws)).alloc _).setRow_other _ _ (by omega)
  have hA1 : Arr W (w.heap.size + 1) 118 (wv shaK) := by
    rw [hW, hks, hzs]; exact Arr.setRow (Arr.new_at _ _ (wv (List.replicate 64 0)) _ (by simp)) _
  have hU : Upd (fun k => k = g) w W := by rw [hW]; exact upd_setRow (((Upd.refl _ w).alloc _).alloc _) _ _ (by omega)
  have hWs : W.heap.size = w.heap.size + 2 := by rw [hW]; simp
  have HG := Lib.hid hg
  have HAG := Lib.hid hAg
  have HA0 := Lib.hid hA0
  have HA1 := Lib.hid hA1
  have HU := Lib.hid hU
  have HWS := Lib.hid hWs
  clear hAg hA0 hA1 hU hW hzs hkz hWs hg
  go_upto_region 2 with fail
  refine wp_region_lit ?_
  refine Great.wpList_readTo rfl _ rfl (.pointer (some ⟨g, 0, none⟩)) ?x2 ?_
  case x2 => kernel_rfl
  refine Great.wpList_readTo rfl _ rfl (.pointer (some ⟨g, 0, none⟩)) ?x3 ?_
  case x3 => kernel_rfl
  refine wpList_load_row rfl 115 (.tmp 14) rfl g rfl 115 ss (0, 0) _ (by rw [hss]; exact HAG.out) Try.underlying115 rfl hkz8 ?_
  refine Great.wpList_allocTo rfl _ rfl (.pointer (some ⟨w.heap.size + 2, 0, none⟩)) (.cells z8 115) ?x4 ?_
  case x4 => rw [hz8, ← HWS.out]; kernel_rfl
  refine wpList_store_row rfl 115 (.tmp 5) (.tmp 15) rfl (w.heap.size + 2) ss rfl rfl 115 z8 (by rw [hz8]; exact Arr.new_at _ _ _ _ HWS.out.symm) hkz8 (by rw [hz8, hss]; rfl) (by rw [hss]; exact all_oneCell_toArray (wv_one _)) ?_
  refine wpList_nil ?_
  rename_i hK
  refine hK _ _ ?_
  clear hK
  have hV : ∃ V, V = (W.alloc (.cells z8 115)).setRow (w.heap.size + 2) ss := ⟨_, rfl⟩
  obtain ⟨V, hV⟩ := hV
  rw [← hV]
  have hg := HG.out
  have hBg : Arr V g 115 (wv s.list) := by rw [hV]; exact (HAG.out.alloc _).setRow_other _ _ (by omega)
  have hB0 : Arr V w.heap.size 118 (wv ws) := by rw [hV]; exact (HA0.out.alloc _).setRow_other _ _ (by omega)
  have hB1 : Arr V (w.heap.size + 1) 118 (wv shaK) := by rw [hV]; exact (HA1.out.alloc _).setRow_other _ _ (by omega)
  have hB2 : Arr V (w.heap.size + 2) 115 (wv s.list) := by rw [hV, hss, hz8]; exact Arr.setRow (Arr.new_at _ _ (wv (List.replicate 8 0)) _ HWS.out.symm) _
  have hU : Upd (fun k => k = g) w V := by rw [hV]; exact upd_setRow (HU.out.alloc _) _ _ (by omega)
  have HR := Lib.hid (RSt.mk hBg hB0 hB1 hB2 hU hg)
  clear hBg hB0 hB1 hB2 hU hV hg HAG HA0 HA1 HU HWS hkz8 hss hz8 hks HG
  go_wp2_with fail
  go_loopg [16] 64 (fun k s16 wr => ∃ i : Nat, i ≤ 64 ∧ k = 64 - i ∧ s16 = .int .i64 (i : Int) ∧ RSt w wr g s.list ws (roundsAt ws s i))
  case atStart => exact ⟨0, by omega, by omega, rfl, HR.out⟩
  case round =>
    obtain ⟨i, hi, hk, rfl, hr⟩ := hrel
    clear HR
    have HK := Lib.hid hk
    clear hk
    by_cases hlt : i < 64
    · have HN := Lib.hid (show rnd (roundsAt ws s i) (wd shaK i) (wd ws i) = roundsAt ws s (i + 1) from rfl)
      generalize roundsAt ws s i = v at *
      obtain ⟨a, b, c, d, e, f, h7, h8⟩ := v
      have hlen := HL.out
      obtain ⟨c0, c1, c2, c3, c4, c5, c6, c7⟩ := hr.cells
      obtain ⟨kw, hkw⟩ : ∃ kw, kw = wd shaK i := ⟨_, rfl⟩
      obtain ⟨ww, hww⟩ : ∃ ww, ww = wd ws i := ⟨_, rfl⟩
      have ck : ∀ wx, RSt w wx g s.list ws ⟨a, b, c, d, e, f, h7, h8⟩ → wx.cell? ⟨w.heap.size + 1, i, none⟩ = some (.int .u32 (un32 kw)) := by
        intro wx hx
        rw [hkw]; exact hx.a2.word (i := i) (by exact hlt)
      have cw : ∀ wx, RSt w wx g s.list ws ⟨a, b, c, d, e, f, h7, h8⟩ → wx.cell? ⟨w.heap.size, i, none⟩ = some (.int .u32 (un32 ww)) := by
        intro wx hx
        rw [hww]; exact hx.a1.word (i := i) (by omega)
      rw [← hkw, ← hww] at HN
      have CK := Lib.hid ck
      have CW := Lib.hid cw
      clear ck cw hkw hww
      have HR := Lib.hid hr
      have HI := Lib.hid hlt
      have hi0 : (0 : Int) ≤ (i : Int) := by omega
      have hi1 : (i : Int) < 64 := by omega
      clear hr hlen hlt hi
      go_upto_region 6 with fail
      go_quiet ((go_at_call 93; exact Calls.quiet_of_same (rotq _ _ _ (by decide))))
      have HR1 := Lib.hid (HR.out.drewN nq)
      clear c0 c1 c2 c3 c4 c5 c6 c7 HR
      generalize wr.drewN nq = w1 at *
      clear nq
      obtain ⟨c0, c1, c2, c3, c4, c5, c6, c7⟩ := HR1.out.cells
      have ck := CK.out _ HR1.out
      have cw := CW.out _ HR1.out
      go_upto_region 7 with fail
      go_quiet (fail)
      have HR2 := Lib.hid (HR1.out.drewN nq)
      clear c0 c1 c2 c3 c4 c5 c6 c7 ck cw HR1 CK CW
      generalize w1.drewN nq = w2 at *
      clear nq
      obtain ⟨c0, c1, c2, c3, c4, c5, c6, c7⟩ := HR2.out.cells
      go_upto_region 8 with fail
      go_quiet ((go_at_call 93; exact Calls.quiet_of_same (rotq _ _ _ (by decide))))
      have HR3 := Lib.hid (HR2.out.drewN nq)
      clear c0 c1 c2 c3 c4 c5 c6 c7 HR2
      generalize w2.drewN nq = w3 at *
      clear nq
      obtain ⟨c0, c1, c2, c3, c4, c5, c6, c7⟩ := HR3.out.cells
      go_upto_region 10 with fail
      simp only [ones32, xor32, and32, add32]
      obtain ⟨vs, hvs⟩ : ∃ vs, vs = (wv (rnd ⟨a, b, c, d, e, f, h7, h8⟩ kw ww).list).toArray := ⟨_, rfl⟩
      have HT := HR3.out.turn (rnd ⟨a, b, c, d, e, f, h7, h8⟩ kw ww)
      rw [HN.out, ← HN.out, ← hvs, HN.out] at HT
      have HV := Lib.hid hvs
      have HT' := Lib.hid HT
      have hvz : (Try.prog.info? 115).map (·.size) = some vs.size := by rw [hvs, stSize]; exact info88
      have HVZ := Lib.hid hvz
      clear hvs HT hvz
      go_wp2_with (refine wpList_store_row rfl 115 (.tmp 5) (.tmp 104) rfl (w.heap.size + 2) vs rfl (by rw [HV.out]; rfl) 115 _ HR3.out.a3 HVZ.out (by rw [HV.out]; exact (stSize _).trans (stSize _).symm) (by rw [HV.out]; exact all_oneCell_toArray (wv_one _)) ?_)
      go_roundg (64 - (i + 1))
      case measure => have := HK.out; have := HI.out; omega
      case rel => exact ⟨i + 1, HI.out, rfl, by go_num, HT'.out⟩
    · obtain rfl : i = 64 := by omega
      obtain ⟨v, hv⟩ : ∃ v, v = roundsAt ws s 64 := ⟨_, rfl⟩
      rw [← hv] at hr
      have HVV := Lib.hid hv
      clear hv
      have HR := Lib.hid hr
      clear hr hlt hi
      go_wp2_with fail
      go_loopg [106] 8 (fun k s106 wr => ∃ i : Nat, i ≤ 8 ∧ k = 8 - i ∧ s106 = .int .i64 (i : Int) ∧ RSt w wr g (mixL s.list v.list i) ws v)
      case atStart => exact ⟨0, by omega, by omega, rfl, by rw [mixL_zero]; exact HR.out⟩
      case round =>
        rename_i wo gk2 wr2
        obtain ⟨i, hi, hk2, rfl, hr⟩ := hrel
        clear HR
        have HK2 := Lib.hid hk2
        clear hk2
        by_cases hlt : i < 8
        · have cg := hr.a0.word (i := i) (by rw [mixL_length]; exact hlt)
          have cs' := hr.a3.word (i := i) hlt
          rw [mixL_at _ _ _ hlt] at cg
          have cf := hr.a0.frozen i
          have HN := Lib.hid (mixL_succ s.list v.list i hlt)
          generalize wd s.list i = x at *
          generalize wd v.list i = y at *
          have HR := Lib.hid hr
          have HI := Lib.hid hlt
          have hi0 : (0 : Int) ≤ (i : Int) := by omega
          have hi1 : (i : Int) < 8 := by omega
          clear hr hi hlt
          go_upto_region 15 with fail
          go_region
          all_goals
            go_wp2_with fail
            go_roundg (8 - (i + 1))
            case measure => have := HK2.out; have := HI.out; omega
            case rel => exact ⟨i + 1, HI.out, rfl, by go_num, by rw [← HN.out]; exact (HR.out.drew.add i (x + y))⟩
        · obtain rfl : i = 8 := by omega
          rw [mixL_done] at hr
          have HR := Lib.hid hr
          clear hr hlt hi
          go_wp2_with fail
          go_end0
          exact ⟨rfl, by rw [← HVV.out]; exact HR.out.a0, HR.out.u⟩
end

end Go.Proofs.Ythlbmjjodjepjaa
