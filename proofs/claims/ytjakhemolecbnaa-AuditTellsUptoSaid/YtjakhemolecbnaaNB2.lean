/-
  The texts Rounds, Sha of this proof in one (what is used of them): what each proves is said at its head. No conditions beyond those that each theorem says.
-/
import Derived.Great.Walk
import Derived.Test.YtjakhemolecbnaaNB
import Derived.Test.YtjakhemolecbnaaNA2

/-
  The walk of sum.rounds.
-/
section
set_option linter.unusedVariables false
set_option linter.unusedSimpArgs false
namespace Go.Proofs.Ytjakhemolecbnaa
open Go.RowKit

def rotz (x : UInt32) (z : Int) : UInt32 := rotr x (-z).toNat
theorem rotq (x : UInt32) (z : Int) (w : World) (hz : z = -6 ∨ z = -11 ∨ z = -25 ∨ z = -2 ∨ z = -13 ∨ z = -22) : Calls Try.prog 93 #[.int .u32 (un32 x), .int .i64 z] w fun e w' => e = .returned (.int .u32 (un32 (rotz x z))) ∧ w' = w := by
  rcases hz with rfl | rfl | rfl | rfl | rfl | rfl
  · exact (rot_6 x w).mono fun _ _ h => ⟨h.1, h.2.symm⟩
  · exact (rot_11 x w).mono fun _ _ h => ⟨h.1, h.2.symm⟩
  · exact (rot_25 x w).mono fun _ _ h => ⟨h.1, h.2.symm⟩
  · exact (rot_2 x w).mono fun _ _ h => ⟨h.1, h.2.symm⟩
  · exact (rot_13 x w).mono fun _ _ h => ⟨h.1, h.2.symm⟩
  · exact (rot_22 x w).mono fun _ _ h => ⟨h.1, h.2.symm⟩

/-- The memory of rounds: the state h, the words, the constants, the copy v. -/
structure RSt (w wr : World) (g : Nat) (hs : List UInt32) (ws : List UInt32) (v : St) : Prop where
  a0 : Arr wr g 141 (wv hs)
  a1 : Arr wr w.heap.size 142 (wv ws)
  a2 : Arr wr (w.heap.size + 1) 142 (wv shaK)
  a3 : Arr wr (w.heap.size + 2) 141 (wv v.list)
  u : Upd (fun k => k = g) w wr
  lt : g < w.heap.size
theorem RSt.drew {w wr : World} {g : Nat} {hs ws : List UInt32} {v : St} (h : RSt w wr g hs ws v) : RSt w wr.drew g hs ws v := ⟨h.a0, h.a1, h.a2, h.a3, h.u.drew, h.lt⟩
theorem RSt.drewN {w wr : World} {g : Nat} {hs ws : List UInt32} {v : St} (h : RSt w wr g hs ws v) (n : Nat) : RSt w (wr.drewN n) g hs ws v := ⟨h.a0, h.a1, h.a2, h.a3, h.u.drewN n, h.lt⟩
theorem RSt.turn {w wr : World} {g : Nat} {hs ws : List UInt32} {v : St} (h : RSt w wr g hs ws v) (v' : St) : RSt w (wr.setRow (w.heap.size + 2) (wv v'.list).toArray) g hs ws v' := by
  have := h.lt
  exact ⟨h.a0.setRow_other _ _ (by omega), h.a1.setRow_other _ _ (by omega), h.a2.setRow_other _ _ (by omega), h.a3.setRow _, upd_setRow h.u _ _ (by omega), h.lt⟩
theorem RSt.cells {w wr : World} {g : Nat} {hs ws : List UInt32} {a b c d e f h7 h8 : UInt32} (h : RSt w wr g hs ws ⟨a, b, c, d, e, f, h7, h8⟩) :
    wr.cell? ⟨w.heap.size + 2, 0, none⟩ = some (.int .u32 (un32 a)) ∧ wr.cell? ⟨w.heap.size + 2, 1, none⟩ = some (.int .u32 (un32 b)) ∧ wr.cell? ⟨w.heap.size + 2, 2, none⟩ = some (.int .u32 (un32 c)) ∧
    wr.cell? ⟨w.heap.size + 2, 3, none⟩ = some (.int .u32 (un32 d)) ∧ wr.cell? ⟨w.heap.size + 2, 4, none⟩ = some (.int .u32 (un32 e)) ∧ wr.cell? ⟨w.heap.size + 2, 5, none⟩ = some (.int .u32 (un32 f)) ∧
    wr.cell? ⟨w.heap.size + 2, 6, none⟩ = some (.int .u32 (un32 h7)) ∧ wr.cell? ⟨w.heap.size + 2, 7, none⟩ = some (.int .u32 (un32 h8)) :=
  ⟨h.a3.cell (i := 0) rfl, h.a3.cell (i := 1) rfl, h.a3.cell (i := 2) rfl, h.a3.cell (i := 3) rfl, h.a3.cell (i := 4) rfl, h.a3.cell (i := 5) rfl, h.a3.cell (i := 6) rfl, h.a3.cell (i := 7) rfl⟩
/-- The state's words when i of them are added to. -/
def mixL (l m : List UInt32) (i : Nat) : List UInt32 := (List.range 8).map fun j => if j < i then wd l j + wd m j else wd l j
theorem mixL_length (l m : List UInt32) (i : Nat) : (mixL l m i).length = 8 := by simp [mixL]
theorem mixL_zero (s v : St) : mixL s.list v.list 0 = s.list := rfl
theorem mixL_done (s v : St) : mixL s.list v.list 8 = (addSt s v).list := rfl
theorem mixL_at (l m : List UInt32) (i : Nat) (h : i < 8) : wd (mixL l m i) i = wd l i := by
  simp [wd, mixL, List.getElem?_range h]
theorem mixL_succ (l m : List UInt32) (i : Nat) (h : i < 8) : (mixL l m i).set i (wd l i + wd m i) = mixL l m (i + 1) := by
  apply List.ext_getElem?
  intro j
  rw [List.getElem?_set]
  by_cases hj : j < 8
  · by_cases e : i = j
    · subst e
      simp [mixL, hj]
    · have h1 : (j < i) = (j < i + 1) := by simp only [eq_iff_iff]; omega
      simp [mixL, hj, e, h1]
  · have h1 : ¬ i = j := by omega
    simp [mixL, hj, h1]
theorem RSt.add {w wr : World} {g : Nat} {hs ws : List UInt32} {v : St} (h : RSt w wr g hs ws v) (i : Nat) (x : UInt32) : RSt w (wr.setCell ⟨g, i, none⟩ (.int .u32 (un32 x))) g (hs.set i x) ws v := by
  have := h.lt
  exact ⟨by rw [← wv_set]; exact h.a0.set _ _, h.a1.set_other _ (by simp; omega) _, h.a2.set_other _ (by simp; omega) _, h.a3.set_other _ (by simp; omega) _, h.u.setCell (fun _ => rfl) _, h.lt⟩
theorem stSize (v : St) : (wv v.list).toArray.size = 8 := rfl
theorem info88 : (Try.prog.info? 141).map (·.size) = some 8 := by kernel_rfl
theorem ones32 (x : UInt32) : bits .xor .u32 (if IntKind.u32.signed = true then -1 else IntKind.u32.max) (un32 x) = un32 (x ^^^ 0xffffffff) := notOnes x

section
attribute [local go_sem] xor32 and32 add32 ones32
set_option maxRecDepth 100000 in
set_option maxHeartbeats 4000000 in
theorem rounds_any (g : Nat) (s : St) (ws : List UInt32) (w : World) (hl : ws.length = 64) (ha : Arr w g 141 (wv s.list)) :
    Calls Try.prog 91 #[.pointer (some ⟨g, 0, none⟩), .agg (wv ws).toArray] w fun e w' => e = .returned (.tuple #[]) ∧ Arr w' g 141 (wv (addSt s (roundsAt ws s 64)).list) ∧ Upd (fun k => k = g) w w' := by
  obtain ⟨cs, hcs⟩ : ∃ cs, cs = (wv ws).toArray := ⟨_, rfl⟩
  rw [← hcs]
  have HCS := Lib.hid hcs
  have HL := Lib.hid hl
  have HA := Lib.hid ha
  have hsz : cs.size = 64 := by rw [hcs, List.size_toArray, wv_length, hl]
  clear hcs hl ha
  go_enter Try.func91, Try.ntmps91
  go_upto_region 1 with fail
  refine wp_region_lit ?_
  obtain ⟨ks, hks⟩ : ∃ ks, ks = (wv shaK).toArray := ⟨_, rfl⟩
  obtain ⟨zs, hzs⟩ : ∃ zs, zs = (wv (List.replicate 64 0)).toArray := ⟨_, rfl⟩
  obtain ⟨z8, hz8⟩ : ∃ z8, z8 = (wv (List.replicate 8 0)).toArray := ⟨_, rfl⟩
  obtain ⟨ss, hss⟩ : ∃ ss, ss = (wv s.list).toArray := ⟨_, rfl⟩
  have hkz : (Try.prog.info? 142).map (·.size) = some ks.size := by rw [hks]; kernel_rfl
  have hkz8 : (Try.prog.info? 141).map (·.size) = some ss.size := by rw [hss, stSize]; exact info88
  refine Great.wpList_readTo rfl _ rfl (.agg ks) ?x0 ?_
  case x0 => rw [hks]; kernel_rfl
  refine Great.wpList_allocTo rfl _ rfl (.pointer (some ⟨w.heap.size + 1, 0, none⟩)) (.cells zs 142) ?x1 ?_
  case x1 => rw [hzs, show w.heap.size + 1 = (w.alloc (.cells cs 142)).heap.size by simp]; kernel_rfl
  refine wpList_store_row rfl 142 (.tmp 4) (.tmp 12) rfl (w.heap.size + 1) ks rfl rfl 142 zs (by rw [hzs]; exact Arr.new_at _ _ _ _ (by simp)) hkz (by rw [hzs, hks]; rfl) (by rw [hks]; exact all_oneCell_toArray (wv_one _)) ?_
  refine wpList_nil ?_
  rename_i hK
  refine hK _ _ ?_
  clear hK
  have hW : ∃ W, W = ((w.alloc (.cells cs 142)).alloc (.cells zs 142)).setRow (w.heap.size + 1) ks := ⟨_, rfl⟩
  obtain ⟨W, hW⟩ := hW
  rw [← hW]
  have hg : g < w.heap.size := HA.out.lt
  have hAg : Arr W g 141 (wv s.list) := by rw [hW]; exact ((HA.out.alloc _).alloc _).setRow_other _ _ (by omega)
  have hA0 : Arr W w.heap.size 142 (wv ws) := by
    rw [hW, HCS.out]; exact ((Arr.new w 142 (wv ws)).alloc _).setRow_other _ _ (by omega)
  have hA1 : Arr W (w.heap.size + 1) 142 (wv shaK) := by
    rw [hW, hks, hzs]; exact Arr.setRow (Arr.new_at _ _ (wv (List.replicate 64 0)) _ (by simp)) _
  have hU : Upd (fun k => k = g) w W := by rw [hW]; exact upd_setRow (((Upd.refl _ w).alloc _).alloc _) _ _ (by omega)
  have hWs : W.heap.size = w.heap.size + 2 := by rw [hW]; simp
  have HG := Lib.hid hg
  have HAG := Lib.hid hAg
  have HA0 := Lib.hid hA0
  have HA1 := Lib.hid hA1
  have HU := Lib.hid hU
  have HWS := Lib.hid hWs
  clear hAg hA0 hA1 hU hW hzs hkz hWs hg
  go_upto_region 2 with fail
  refine wp_region_lit ?_
  refine Great.wpList_readTo rfl _ rfl (.pointer (some ⟨g, 0, none⟩)) ?x2 ?_
  case x2 => kernel_rfl
  refine Great.wpList_readTo rfl _ rfl (.pointer (some ⟨g, 0, none⟩)) ?x3 ?_
  case x3 => kernel_rfl
  refine wpList_load_row rfl 141 (.tmp 14) rfl g rfl 141 ss (0, 0) _ (by rw [hss]; exact HAG.out) Try.underlying141 rfl hkz8 ?_
  refine Great.wpList_allocTo rfl _ rfl (.pointer (some ⟨w.heap.size + 2, 0, none⟩)) (.cells z8 141) ?x4 ?_
  case x4 => rw [hz8, ← HWS.out]; kernel_rfl
  refine wpList_store_row rfl 141 (.tmp 5) (.tmp 15) rfl (w.heap.size + 2) ss rfl rfl 141 z8 (by rw [hz8]; exact Arr.new_at _ _ _ _ HWS.out.symm) hkz8 (by rw [hz8, hss]; rfl) (by rw [hss]; exact all_oneCell_toArray (wv_one _)) ?_
  refine wpList_nil ?_
  rename_i hK
  refine hK _ _ ?_
  clear hK
  have hV : ∃ V, V = (W.alloc (.cells z8 141)).setRow (w.heap.size + 2) ss := ⟨_, rfl⟩
  obtain ⟨V, hV⟩ := hV
  rw [← hV]
  have hg := HG.out
  have hBg : Arr V g 141 (wv s.list) := by rw [hV]; exact (HAG.out.alloc _).setRow_other _ _ (by omega)
  have hB0 : Arr V w.heap.size 142 (wv ws) := by rw [hV]; exact (HA0.out.alloc _).setRow_other _ _ (by omega)
  have hB1 : Arr V (w.heap.size + 1) 142 (wv shaK) := by rw [hV]; exact (HA1.out.alloc _).setRow_other _ _ (by omega)
  have hB2 : Arr V (w.heap.size + 2) 141 (wv s.list) := by rw [hV, hss, hz8]; exact Arr.setRow (Arr.new_at _ _ (wv (List.replicate 8 0)) _ HWS.out.symm) _
  have hU : Upd (fun k => k = g) w V := by rw [hV]; exact upd_setRow (HU.out.alloc _) _ _ (by omega)
  have HR := Lib.hid (RSt.mk hBg hB0 hB1 hB2 hU hg)
  clear hBg hB0 hB1 hB2 hU hV hg HAG HA0 HA1 HU HWS hkz8 hss hz8 hks HG
  go_wp2_with fail
  go_loopg [16] 64 (fun k s16 wr => ∃ i : Nat, i ≤ 64 ∧ k = 64 - i ∧ s16 = .int .i64 (i : Int) ∧ RSt w wr g s.list ws (roundsAt ws s i))
  case atStart => exact ⟨0, by omega, by omega, rfl, HR.out⟩
  case round =>
    obtain ⟨i, hi, hk, rfl, hr⟩ := hrel
    clear HR
    have HK := Lib.hid hk
    clear hk
    by_cases hlt : i < 64
    · have HN := Lib.hid (show rnd (roundsAt ws s i) (wd shaK i) (wd ws i) = roundsAt ws s (i + 1) from rfl)
      generalize roundsAt ws s i = v at *
      obtain ⟨a, b, c, d, e, f, h7, h8⟩ := v
      have hlen := HL.out
      obtain ⟨c0, c1, c2, c3, c4, c5, c6, c7⟩ := hr.cells
      obtain ⟨kw, hkw⟩ : ∃ kw, kw = wd shaK i := ⟨_, rfl⟩
      obtain ⟨ww, hww⟩ : ∃ ww, ww = wd ws i := ⟨_, rfl⟩
      have ck : ∀ wx, RSt w wx g s.list ws ⟨a, b, c, d, e, f, h7, h8⟩ → wx.cell? ⟨w.heap.size + 1, i, none⟩ = some (.int .u32 (un32 kw)) := by
        intro wx hx
        rw [hkw]; exact hx.a2.word (i := i) (by exact hlt)
      have cw : ∀ wx, RSt w wx g s.list ws ⟨a, b, c, d, e, f, h7, h8⟩ → wx.cell? ⟨w.heap.size, i, none⟩ = some (.int .u32 (un32 ww)) := by
        intro wx hx
        rw [hww]; exact hx.a1.word (i := i) (by omega)
      rw [← hkw, ← hww] at HN
      have CK := Lib.hid ck
      have CW := Lib.hid cw
      clear ck cw hkw hww
      have HR := Lib.hid hr
      have HI := Lib.hid hlt
      have hi0 : (0 : Int) ≤ (i : Int) := by omega
      have hi1 : (i : Int) < 64 := by omega
      clear hr hlen hlt hi
      go_upto_region 6 with fail
      go_quiet ((go_at_call 93; exact Calls.quiet_of_same (rotq _ _ _ (by decide))))
      have HR1 := Lib.hid (HR.out.drewN nq)
      clear c0 c1 c2 c3 c4 c5 c6 c7 HR
      generalize wr.drewN nq = w1 at *
      clear nq
      obtain ⟨c0, c1, c2, c3, c4, c5, c6, c7⟩ := HR1.out.cells
      have ck := CK.out _ HR1.out
      have cw := CW.out _ HR1.out
      go_upto_region 7 with fail
      go_quiet (fail)
      have HR2 := Lib.hid (HR1.out.drewN nq)
      clear c0 c1 c2 c3 c4 c5 c6 c7 ck cw HR1 CK CW
      generalize w1.drewN nq = w2 at *
      clear nq
      obtain ⟨c0, c1, c2, c3, c4, c5, c6, c7⟩ := HR2.out.cells
      go_upto_region 8 with fail
      go_quiet ((go_at_call 93; exact Calls.quiet_of_same (rotq _ _ _ (by decide))))
      have HR3 := Lib.hid (HR2.out.drewN nq)
      clear c0 c1 c2 c3 c4 c5 c6 c7 HR2
      generalize w2.drewN nq = w3 at *
      clear nq
      obtain ⟨c0, c1, c2, c3, c4, c5, c6, c7⟩ := HR3.out.cells
      go_upto_region 10 with fail
      simp only [ones32, xor32, and32, add32]
      obtain ⟨vs, hvs⟩ : ∃ vs, vs = (wv (rnd ⟨a, b, c, d, e, f, h7, h8⟩ kw ww).list).toArray := ⟨_, rfl⟩
      have HT := HR3.out.turn (rnd ⟨a, b, c, d, e, f, h7, h8⟩ kw ww)
      rw [HN.out, ← HN.out, ← hvs, HN.out] at HT
      have HV := Lib.hid hvs
      have HT' := Lib.hid HT
      have hvz : (Try.prog.info? 141).map (·.size) = some vs.size := by rw [hvs, stSize]; exact info88
      have HVZ := Lib.hid hvz
      clear hvs HT hvz
      go_wp2_with (refine wpList_store_row rfl 141 (.tmp 5) (.tmp 104) rfl (w.heap.size + 2) vs rfl (by rw [HV.out]; rfl) 141 _ HR3.out.a3 HVZ.out (by rw [HV.out]; exact (stSize _).trans (stSize _).symm) (by rw [HV.out]; exact all_oneCell_toArray (wv_one _)) ?_)
      go_roundg (64 - (i + 1))
      case measure => have := HK.out; have := HI.out; omega
      case rel => exact ⟨i + 1, HI.out, rfl, by go_num, HT'.out⟩
    · obtain rfl : i = 64 := by omega
      obtain ⟨v, hv⟩ : ∃ v, v = roundsAt ws s 64 := ⟨_, rfl⟩
      rw [← hv] at hr
      have HVV := Lib.hid hv
      clear hv
      have HR := Lib.hid hr
      clear hr hlt hi
      go_wp2_with fail
      go_loopg [106] 8 (fun k s106 wr => ∃ i : Nat, i ≤ 8 ∧ k = 8 - i ∧ s106 = .int .i64 (i : Int) ∧ RSt w wr g (mixL s.list v.list i) ws v)
      case atStart => exact ⟨0, by omega, by omega, rfl, by rw [mixL_zero]; exact HR.out⟩
      case round =>
        rename_i wo gk2 wr2
        obtain ⟨i, hi, hk2, rfl, hr⟩ := hrel
        clear HR
        have HK2 := Lib.hid hk2
        clear hk2
        by_cases hlt : i < 8
        · have cg := hr.a0.word (i := i) (by rw [mixL_length]; exact hlt)
          have cs' := hr.a3.word (i := i) hlt
          rw [mixL_at _ _ _ hlt] at cg
          have cf := hr.a0.frozen i
          have HN := Lib.hid (mixL_succ s.list v.list i hlt)
          generalize wd s.list i = x at *
          generalize wd v.list i = y at *
          have HR := Lib.hid hr
          have HI := Lib.hid hlt
          have hi0 : (0 : Int) ≤ (i : Int) := by omega
          have hi1 : (i : Int) < 8 := by omega
          clear hr hi hlt
          go_upto_region 15 with fail
          go_region
          all_goals
            go_wp2_with fail
            go_roundg (8 - (i + 1))
            case measure => have := HK2.out; have := HI.out; omega
            case rel => exact ⟨i + 1, HI.out, rfl, by go_num, by rw [← HN.out]; exact (HR.out.drew.add i (x + y))⟩
        · obtain rfl : i = 8 := by omega
          rw [mixL_done] at hr
          have HR := Lib.hid hr
          clear hr hlt hi
          go_wp2_with fail
          go_end0
          exact ⟨rfl, by rw [← HVV.out]; exact HR.out.a0, HR.out.u⟩
end

end Go.Proofs.Ytjakhemolecbnaa
end

/-
  The walk of sum.Sha.
-/
section
set_option linter.unusedVariables false
set_option linter.unusedSimpArgs false
namespace Go.Proofs.Ytjakhemolecbnaa
open Go.RowKit

theorem info72 : (Try.prog.info? 86).map (·.size) = some 32 := by kernel_rfl
theorem own_sub {w : World} {base g n c : Nat} {e : TypeId} {l : List UInt8} (h : w.ownsRow base e 1 (.slice (some ⟨g, 0, none⟩) n c) n (bv l)) (k m : Nat) (hk : k + m ≤ l.length) : RB w (some ⟨g, k, none⟩) ((l.drop k).take m) := by
  intro h0
  refine ⟨_, rfl, fun j hj => ?_⟩
  have hj' : k + j < l.length := by simp at hj; omega
  rw [add_off, own_byte h (k + j) hj']
  simp

set_option maxRecDepth 100000 in
theorem idx8 (st : St) (i : Nat) (hi : i < 8) (w : World) : (Instr.index 141 (.agg (wv st.list).toArray) (.int .i64 (i : Int))).run Try.prog w = .ok (.int .u32 (un32 (wd st.list i))) w := by
  have h : i = 0 ∨ i = 1 ∨ i = 2 ∨ i = 3 ∨ i = 4 ∨ i = 5 ∨ i = 6 ∨ i = 7 := by omega
  clear hi
  rcases h with rfl | rfl | rfl | rfl | rfl | rfl | rfl | rfl <;> rfl
def b24 (x : UInt32) : UInt8 := UInt8.ofNat (x.toNat / 2 ^ 24)
def b16 (x : UInt32) : UInt8 := UInt8.ofNat (x.toNat / 2 ^ 16)
def b08 (x : UInt32) : UInt8 := UInt8.ofNat (x.toNat / 2 ^ 8)
def b00 (x : UInt32) : UInt8 := UInt8.ofNat x.toNat
theorem un8_ofNat (n : Nat) : un8 (UInt8.ofNat n) = ((n % 256 : Nat) : Int) := by
  unfold un8
  rw [show ∀ m : Nat, (UInt8.ofNat m).toNat = m % 256 from fun m => UInt8.toNat_ofNat']
theorem cut24 (x : UInt32) : un32 x / 16777216 % 256 = un8 (b24 x) := by unfold b24; rw [un8_ofNat]; unfold un32; omega
theorem cut16 (x : UInt32) : un32 x / 65536 % 256 = un8 (b16 x) := by unfold b16; rw [un8_ofNat]; unfold un32; omega
theorem cut08 (x : UInt32) : un32 x / 256 % 256 = un8 (b08 x) := by unfold b08; rw [un8_ofNat]; unfold un32; omega
theorem cut00 (x : UInt32) : un32 x % 256 = un8 (b00 x) := by unfold b00; rw [un8_ofNat]; unfold un32; omega
/-- What is written when i words are. -/
def outL (l : List UInt32) (i : Nat) : List UInt8 := (l.take i).flatMap be4 ++ List.replicate (32 - 4 * i) 0
theorem outL_length (st : St) (i : Nat) (h : i ≤ 8) : (outL st.list i).length = 32 := by
  have h : i = 0 ∨ i = 1 ∨ i = 2 ∨ i = 3 ∨ i = 4 ∨ i = 5 ∨ i = 6 ∨ i = 7 ∨ i = 8 := by omega
  rcases h with rfl | rfl | rfl | rfl | rfl | rfl | rfl | rfl | rfl <;> rfl
theorem outL_done (st : St) : outL st.list 8 = st.list.flatMap be4 := by simp [outL, St.list]
theorem outL_succ (st : St) (i k : Nat) (h : i < 8) (hk : k = 4 * i) (x : UInt32) (hx : x = wd st.list i) : ((((outL st.list i).set k (b24 x)).set (k + 1) (b16 x)).set (k + 2) (b08 x)).set (k + 3) (b00 x) = outL st.list (i + 1) := by
  subst hk hx
  have h : i = 0 ∨ i = 1 ∨ i = 2 ∨ i = 3 ∨ i = 4 ∨ i = 5 ∨ i = 6 ∨ i = 7 := by omega
  rcases h with rfl | rfl | rfl | rfl | rfl | rfl | rfl | rfl <;> rfl
theorem bv_set (l : List UInt8) (i : Nat) (x : UInt8) : (bv l).set i (.int .u8 (un8 x)) = bv (l.set i x) := by simp [bv, List.map_set, B8]

/-- The memory of Sha's first loop. -/
structure HSt (w wr : World) (v : Value) (p : List UInt8) (s : St) : Prop where
  a0 : Arr wr w.heap.size 86 (bv (List.replicate 32 0))
  a1 : Arr wr (w.heap.size + 1) 141 (wv s.list)
  own : wr.ownsRow (w.heap.size + 2) 5 1 v p.length (bv p)
  b : Below w.heap.size w wr

theorem HSt.below {w wr wr' : World} {v : Value} {p : List UInt8} {s : St} (h : HSt w wr v p s) (hb : Below wr.heap.size wr wr') : HSt w wr' v p s :=
  ⟨h.a0.below hb h.a0.lt, h.a1.below hb h.a1.lt, own_below h.own hb, below_below h.b h.b.size hb⟩
theorem HSt.turn {w wr wr' : World} {v : Value} {p : List UInt8} {s s' : St} (h : HSt w wr v p s) (hu : Upd (fun k => k = w.heap.size + 1) wr wr') (ha : Arr wr' (w.heap.size + 1) 141 (wv s'.list)) : HSt w wr' v p s' :=
  ⟨h.a0.upd hu (by omega), ha, own_upd h.own hu (fun k hk => by have := (World.ownsRow.lt h.own k hk).1; omega), below_upd h.b h.b.size hu (fun k hk => by omega)⟩

section
attribute [local go_sem] cut24 cut16 cut08 cut00
set_option maxRecDepth 100000 in
set_option maxHeartbeats 4000000 in
theorem sha_any (A : Option Addr) (n c : Nat) (l : List UInt8) (w : World) (hl : l.length = n) (hn : n ≤ 100000000) (hr : RB w A l) :
    Calls Try.prog 89 #[.slice A n c] w fun e w' => e = .returned (.agg (bv (shaOf l)).toArray) ∧ Below w.heap.size w w' := by
  subst hl
  have HR := Lib.hid hr
  clear hr
  go_enter Try.func89, Try.ntmps89
  obtain ⟨z32, hz32⟩ : ∃ z32, z32 = (bv (List.replicate 32 0)).toArray := ⟨_, rfl⟩
  obtain ⟨z8, hz8⟩ : ∃ z8, z8 = (wv (List.replicate 8 0)).toArray := ⟨_, rfl⟩
  obtain ⟨s8, hs8⟩ : ∃ s8, s8 = (wv h0.list).toArray := ⟨_, rfl⟩
  have hkz : (Try.prog.info? 141).map (·.size) = some s8.size := by rw [hs8, stSize]; exact info88
  go_upto_region 0 with fail
  refine wp_region_lit ?_
  refine Great.wpList_allocTo rfl _ rfl (.pointer (some ⟨w.heap.size, 0, none⟩)) (.cells z32 86) ?x1 ?_
  case x1 => rw [hz32]; kernel_rfl
  refine wpList_nil ?_
  rename_i hK
  refine hK _ _ ?_
  clear hK
  obtain ⟨w1, hw1⟩ : ∃ w1, w1 = w.alloc (.cells z32 86) := ⟨_, rfl⟩
  rw [← hw1]
  have hs1 : w1.heap.size = w.heap.size + 1 := by rw [hw1]; simp
  have hA0 : Arr w1 w.heap.size 86 (bv (List.replicate 32 0)) := by rw [hw1, hz32]; exact Arr.new _ _ _
  have hB1 : Below w.heap.size w w1 := by rw [hw1]; exact (Below.refl _ _).alloc (Nat.le_refl _) _
  clear hw1 hz32
  have HA0 := Lib.hid hA0
  have HB1 := Lib.hid hB1
  have HS1 := Lib.hid hs1
  have HKZ := Lib.hid hkz
  clear hA0 hB1 hs1 hkz
  go_upto_region 1 with fail
  refine wp_region_lit ?_
  refine Great.wpList_readTo rfl _ rfl (.agg s8) ?x2 ?_
  case x2 => rw [hs8]; kernel_rfl
  refine Great.wpList_allocTo rfl _ rfl (.pointer (some ⟨w.heap.size + 1, 0, none⟩)) (.cells z8 141) ?x3 ?_
  case x3 => rw [hz8, ← HS1.out]; kernel_rfl
  refine wpList_store_row rfl 141 (.tmp 3) (.tmp 9) rfl (w.heap.size + 1) s8 rfl rfl 141 z8 (by rw [hz8]; exact Arr.new_at _ _ _ _ HS1.out.symm) HKZ.out (by rw [hz8, hs8]; rfl) (by rw [hs8]; exact all_oneCell_toArray (wv_one _)) ?_
  refine wpList_nil ?_
  rename_i hK
  refine hK _ _ ?_
  clear hK
  obtain ⟨w2, hw2⟩ : ∃ w2, w2 = (w1.alloc (.cells z8 141)).setRow (w.heap.size + 1) s8 := ⟨_, rfl⟩
  rw [← hw2]
  have hs1 := HS1.out
  have hs2 : w2.heap.size = w.heap.size + 2 := by rw [hw2]; simp [hs1]
  have hA0 : Arr w2 w.heap.size 86 (bv (List.replicate 32 0)) := by rw [hw2]; exact (HA0.out.alloc _).setRow_other _ _ (by omega)
  have hA1 : Arr w2 (w.heap.size + 1) 141 (wv h0.list) := by rw [hw2, hs8, hz8]; exact Arr.setRow (Arr.new_at _ _ (wv (List.replicate 8 0)) _ hs1.symm) _
  have hB2 : Below w.heap.size w w2 := by rw [hw2]; exact below_setRow (HB1.out.alloc HB1.out.size _) _ _ (by omega)
  clear hw2 hz8 hs8 HA0 HB1 HS1 HKZ hs1
  have HA0 := Lib.hid hA0
  have HA1 := Lib.hid hA1
  have HB2 := Lib.hid hB2
  have HS2 := Lib.hid hs2
  clear hA0 hA1 hB2 hs2
  go_wp2_with fail
  refine (padded_any A l.length c l w2 rfl hn (HR.out.below HB2.out)).mono ?_
  rintro e w3 ⟨v, rfl, hown, hb3⟩
  have hs2 := HS2.out
  have hst : HSt w w3 v (padOf l) h0 := ⟨HA0.out.below hb3 (by omega), HA1.out.below hb3 (by omega), by rw [← hs2]; exact hown, below_below HB2.out HB2.out.size hb3⟩
  have HST := Lib.hid hst
  have HN := Lib.hid (padOf_length l)
  have HM := Lib.hid (padOf_mod l)
  clear hst hown hb3 hs2 HA0 HA1 HB2 HS2
  obtain ⟨p, hp⟩ : ∃ p, p = padOf l := ⟨_, rfl⟩
  rw [← hp] at HST HN HM
  have HP := Lib.hid hp
  clear hp
  obtain ⟨g, cc, rfl, hbg, hcc⟩ := own_form HST.out.own (by have := HN.out; omega)
  clear hbg
  have hlen : p.length ≤ 100000100 := by have := HN.out; have := padZ_lt l.length; omega
  go_wp2_with fail
  obtain ⟨N, hN⟩ : ∃ N, p.length = 64 * N := ⟨p.length / 64, by have := HM.out; omega⟩
  have HNN := Lib.hid hN
  clear hN
  go_loopg [5] N (fun k s5 wr => ∃ i m : Nat, i ≤ N ∧ k = N - i ∧ m = 64 * i ∧ s5 = .int .i64 (m : Int) ∧ HSt w wr (.slice (some ⟨g, 0, none⟩) p.length cc) p (stAt p i))
  case atStart => exact ⟨0, 0, by omega, by omega, rfl, rfl, HST.out⟩
  case round =>
    obtain ⟨i, m, hi, hk, hm, rfl, hst⟩ := hrel
    clear HST
    have HST := Lib.hid hst
    have HK := Lib.hid hk
    have hN := HNN.out
    by_cases hlt : i < N
    · have h1 : (m : Int) < (p.length : Int) := by omega
      have h2 : (m : Int) + 64 ≤ (cc : Int) := by omega
      have h3 : (0 : Int) ≤ (m : Int) := by omega
      have h4 : ¬ cc = m := by omega
      have h5 : (m : Int) + 64 ≤ (p.length : Int) := by omega
      have HI := Lib.hid hlt
      have HMM := Lib.hid hm
      clear hst hk hN hlt hm hi
      go_wp2_with fail
      refine (spread_any _ _ ((p.drop m).take 64) wr (by simp; omega) (own_sub HST.out.own m 64 (by omega))).mono ?_
      rintro e w4 ⟨rfl, hb4⟩
      have HST4 := Lib.hid (HST.out.below hb4)
      have HCO := Lib.hid (show compress (stAt p i) ((p.drop m).take 64) = stAt p (i + 1) by rw [HMM.out]; rfl)
      unfold compress at HCO
      clear hb4 HST
      obtain ⟨ws, hws⟩ : ∃ ws, ws = sched ((p.drop m).take 64) 64 := ⟨_, rfl⟩
      rw [← hws] at HCO ⊢
      have hwl : ws.length = 64 := by rw [hws, sched_length]
      have HWL := Lib.hid hwl
      clear hws hwl
      go_wp2_with fail
      refine (rounds_any (w.heap.size + 1) (stAt p i) ws w4 HWL.out HST4.out.a1).mono ?_
      rintro e w5 ⟨rfl, ha5, hu5⟩
      rw [HCO.out] at ha5
      have HST5 := Lib.hid (HST4.out.turn hu5 ha5)
      clear ha5 hu5 HST4
      go_wp2_with fail
      go_roundg (N - (i + 1))
      case measure => have := HK.out; have := HI.out; omega
      case rel => exact ⟨i + 1, m + 64, HI.out, rfl, by have := HMM.out; omega, by go_num, HST5.out⟩
    · obtain rfl : i = N := by omega
      have hS : shaOf l = (stAt p i).list.flatMap be4 := by rw [shaOf, ← HP.out, hN, Nat.mul_div_cancel_left _ (by omega)]
      have HSS := Lib.hid hS
      clear hS
      generalize stAt p i = st at *
      have h1 : (m : Int) = (p.length : Int) := by omega
      clear hst hk hN hlt hi hm
      go_upto_region 7 with fail
      obtain ⟨z32, hz32⟩ : ∃ z32, z32 = (bv (List.replicate 32 0)).toArray := ⟨_, rfl⟩
      obtain ⟨q, hq⟩ : ∃ q, q = wr.heap.size := ⟨_, rfl⟩
      refine wp_region_lit ?_
      refine Great.wpList_allocTo rfl _ rfl (.pointer (some ⟨q, 0, none⟩)) (.cells z32 86) ?x1 ?_
      case x1 => rw [hz32, hq]; kernel_rfl
      refine wpList_nil ?_
      rename_i hK
      refine hK _ _ ?_
      clear hK
      obtain ⟨w4, hw4⟩ : ∃ w4, w4 = wr.alloc (.cells z32 86) := ⟨_, rfl⟩
      rw [← hw4]
      have hq1 : w.heap.size + 1 < q := by rw [hq]; exact HST.out.a1.lt
      have hA0 : Arr w4 w.heap.size 86 (bv (List.replicate 32 0)) := by rw [hw4]; exact HST.out.a0.alloc _
      have hA1 : Arr w4 (w.heap.size + 1) 141 (wv st.list) := by rw [hw4]; exact HST.out.a1.alloc _
      have hA2 : Arr w4 q 86 (bv (outL st.list 0)) := by rw [hw4, hz32]; exact Arr.new_at _ _ _ _ hq
      have hB4 : Below w.heap.size w w4 := by rw [hw4]; exact HST.out.b.alloc HST.out.b.size _
      obtain ⟨ss, hss⟩ : ∃ ss, ss = (wv st.list).toArray := ⟨_, rfl⟩
      have hsz : (Try.prog.info? 141).map (·.size) = some ss.size := by rw [hss, stSize]; exact info88
      have hidx : ∀ i : Nat, i < 8 → ∀ w, (Instr.index 141 (.agg ss) (.int .i64 (i : Int))).run Try.prog w = .ok (.int .u32 (un32 (wd st.list i))) w := by
        intro i hi w
        rw [hss]; exact idx8 st i hi w
      have HA0 := Lib.hid hA0
      have HA1 := Lib.hid hA1
      have HA2 := Lib.hid hA2
      have HB4 := Lib.hid hB4
      have HQ := Lib.hid hq1
      have HX := Lib.hid hidx
      have HSZ := Lib.hid hsz
      have HSE := Lib.hid hss
      clear hA0 hA1 hA2 hB4 hidx hsz hw4 hz32 hq hq1 hss HST h1
      go_upto_region 8 with fail
      refine wp_region_lit ?_
      refine wpList_load_row rfl 141 (.tmp 3) rfl (w.heap.size + 1) rfl 141 ss (0, 0) _ (by rw [HSE.out]; exact HA1.out) Try.underlying141 rfl HSZ.out ?_
      refine Great.wpList_readTo rfl _ rfl (.int .i64 0) ?x2 ?_
      case x2 => kernel_rfl
      refine wpList_nil ?_
      rename_i hK
      refine hK _ _ ?_
      clear hK
      go_wp2_with fail
      go_loopg [26] 8 (fun k s26 wr => ∃ i : Nat, i ≤ 8 ∧ k = 8 - i ∧ s26 = .int .i64 (i : Int) ∧ Arr wr w.heap.size 86 (bv (List.replicate 32 0)) ∧ Arr wr q 86 (bv (outL st.list i)) ∧ Below w.heap.size w wr)
      case atStart => exact ⟨0, by omega, by omega, rfl, HA0.out, HA2.out, HB4.out⟩
      case round =>
        rename_i wo gk2 wr2
        obtain ⟨i, hi, hk2, rfl, ha0, ha2, hb⟩ := hrel
        clear HA0 HA1 HA2 HB4
        have HK2 := Lib.hid hk2
        have HA0 := Lib.hid ha0
        have HA2 := Lib.hid ha2
        have HB := Lib.hid hb
        clear hk2 ha0 ha2 hb
        by_cases hlt : i < 8
        · have hx := HX.out i hlt
          obtain ⟨x, hxe⟩ : ∃ x, x = wd st.list i := ⟨_, rfl⟩
          obtain ⟨k, hk⟩ : ∃ k : Nat, k = 4 * i := ⟨_, rfl⟩
          have HS := Lib.hid (outL_succ st i k hlt hk x hxe)
          rw [← hxe] at hx
          have hlen := outL_length st i hi
          obtain ⟨u0, c0⟩ : ∃ u, wr.cell? ⟨q, k, none⟩ = some u := ⟨_, HA2.out.byte (i := k) (by omega)⟩
          obtain ⟨u1, c1⟩ : ∃ u, wr.cell? ⟨q, k + 1, none⟩ = some u := ⟨_, HA2.out.byte (i := k + 1) (by omega)⟩
          obtain ⟨u2, c2⟩ : ∃ u, wr.cell? ⟨q, k + 2, none⟩ = some u := ⟨_, HA2.out.byte (i := k + 2) (by omega)⟩
          obtain ⟨u3, c3⟩ : ∃ u, wr.cell? ⟨q, k + 3, none⟩ = some u := ⟨_, HA2.out.byte (i := k + 3) (by omega)⟩
          have f0 := HA2.out.frozen k
          have f1 := HA2.out.frozen (k + 1)
          have f2 := HA2.out.frozen (k + 2)
          have f3 := HA2.out.frozen (k + 3)
          have hk4 : 4 * (i : Int) = (k : Int) := by omega
          have hb1 : (k : Int) ≤ 28 := by omega
          have hb2 : (0 : Int) ≤ (k : Int) := by omega
          have HI := Lib.hid hlt
          clear hxe hk hlen hlt hi
          go_wp2_with fail
          go_roundg (8 - (i + 1))
          case measure => have := HK2.out; have := HI.out; omega
          case rel =>
            have hq := HQ.out
            refine ⟨i + 1, HI.out, rfl, by go_num, ?_, ?_, ?_⟩
            · exact (((HA0.out.set_other _ (by simp; omega) _).set_other _ (by simp; omega) _).set_other _ (by simp; omega) _).set_other _ (by simp; omega) _
            · have h := (((HA2.out.set k (.int .u8 (un8 (b24 x)))).set (k + 1) (.int .u8 (un8 (b16 x)))).set (k + 2) (.int .u8 (un8 (b08 x)))).set (k + 3) (.int .u8 (un8 (b00 x)))
              rw [bv_set, bv_set, bv_set, bv_set, HS.out] at h
              exact h
            · exact (((HB.out.setCell (by simp; omega) _).setCell (by simp; omega) _).setCell (by simp; omega) _).setCell (by simp; omega) _
        · obtain rfl : i = 8 := by omega
          obtain ⟨cs, hcs⟩ : ∃ cs, cs = (bv (shaOf l)).toArray := ⟨_, rfl⟩
          have hcs2 : cs = (bv (outL st.list 8)).toArray := by rw [hcs, HSS.out, outL_done]
          have hsz8 : cs.size = 32 := by rw [hcs, List.size_toArray, bv_length, shaOf_length]
          have hcz : (Try.prog.info? 86).map (·.size) = some cs.size := by rw [hsz8]; exact info72
          have HCS := Lib.hid hcs
          have HCS2 := Lib.hid hcs2
          have HS8 := Lib.hid hsz8
          have HCZ := Lib.hid hcz
          clear hcs hcs2 hsz8 hcz hlt hi
          go_upto_region 13 with fail
          refine wp_region_lit ?_
          refine wpList_load_row rfl 86 (.tmp 6) rfl q rfl 86 cs (0, 0) _ (by rw [HCS2.out]; exact HA2.out) Try.underlying86 rfl HCZ.out ?_
          refine wpList_store_row rfl 86 (.tmp 2) (.tmp 57) rfl w.heap.size cs rfl rfl 86 (bv (List.replicate 32 0)).toArray HA0.out HCZ.out (by rw [HS8.out]; rfl) (by rw [HCS.out]; exact all_oneCell_toArray (bv_one _)) ?_
          refine wpList_nil ?_
          rename_i hK
          refine hK _ _ ?_
          apply wp_ret
          refine bodyPost_ret (v := .agg cs) ?_ rfl ?_
          case refine_2 => exact ⟨by rw [HCS.out], below_setRow HB.out _ _ (Nat.le_refl _)⟩
          exact results_cell_row rfl _ _ w.heap.size 86 cs (0, 0) _ rfl (setRow_heap _ _ _ _ _ _ HA0.out) Try.underlying86 rfl HCZ.out

end
end Go.Proofs.Ytjakhemolecbnaa
end
