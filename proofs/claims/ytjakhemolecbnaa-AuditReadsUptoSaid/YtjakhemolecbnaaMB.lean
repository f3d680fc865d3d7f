/-
  The texts Spread, Rounds, Sha, Chain, ChainEq, ChainMake, ChainFew of this proof in one: what each proves is said at its head. No conditions beyond those that each theorem says.
-/
import Derived.Great.Walk
import Derived.Lib.AppendStr
import Derived.Deep.CutBlock
import Derived.DeepKeys
import Derived.Great.BuildSlice
import Derived.Test.YtjakhemolecbnaaMA

/-
  The walk of sum.spread.
-/
section
set_option linter.unusedVariables false
set_option linter.unusedSimpArgs false
namespace Go.Proofs.Ytjakhemolecbnaa
open Go.RowKit

/-- The array when i of its words are there. -/
def schedZ (b : List UInt8) (i : Nat) : List UInt32 := sched b i ++ List.replicate (64 - i) 0
theorem schedZ_length (b : List UInt8) (i : Nat) (h : i ≤ 64) : (schedZ b i).length = 64 := by simp [schedZ, sched_length]; omega
theorem schedZ_wd (b : List UInt8) (i k : Nat) (h : k < i) : wd (schedZ b i) k = wd (sched b i) k := by
  unfold wd schedZ
  simp only [List.getD_eq_getElem?_getD]
  rw [List.getElem?_append_left (by rw [sched_length]; exact h)]
theorem schedZ_succ (b : List UInt8) (i : Nat) (h : i < 64) (x : UInt32) (hx : sched b (i + 1) = sched b i ++ [x]) : schedZ b (i + 1) = (schedZ b i).set i x := by
  unfold schedZ
  rw [hx, List.set_append_right _ _ (by rw [sched_length]; exact Nat.le_refl _), sched_length, Nat.sub_self, show 64 - i = (64 - (i + 1)) + 1 by omega, List.replicate_succ]
  simp
theorem schedZ_done (b : List UInt8) : schedZ b 64 = sched b 64 := by simp [schedZ]
theorem sched_lo (b : List UInt8) (i : Nat) (h : i < 16) : sched b (i + 1) = sched b i ++ [be32 b (4 * i)] := by simp [sched, h]
theorem sched_hi (b : List UInt8) (i : Nat) (h : ¬ i < 16) : sched b (i + 1) = sched b i ++ [wd (sched b i) (i - 16) + sig0 (wd (sched b i) (i - 15)) + wd (sched b i) (i - 7) + sig1 (wd (sched b i) (i - 2))] := by simp [sched, h]
theorem wv_set (l : List UInt32) (i : Nat) (x : UInt32) : (wv l).set i (.int .u32 (un32 x)) = wv (l.set i x) := by simp [wv, List.map_set, W32]

theorem bt_get (l : List UInt8) (i : Nat) (h : i < l.length) : bt l i = l[i] := by simp [bt, List.getD_eq_getElem?_getD, List.getElem?_eq_getElem h]
theorem shl24 (x : UInt32) : un32 x * 16777216 % 4294967296 = un32 (shlW x 24) := (un32_shl x 24).symm
theorem shl16 (x : UInt32) : un32 x * 65536 % 4294967296 = un32 (shlW x 16) := (un32_shl x 16).symm
theorem shl8 (x : UInt32) : un32 x * 256 % 4294967296 = un32 (shlW x 8) := (un32_shl x 8).symm

theorem shr3 (x : UInt32) : un32 x / 8 = un32 (shrW x 3) := (un32_shr x 3).symm
theorem shr10 (x : UInt32) : un32 x / 1024 = un32 (shrW x 10) := (un32_shr x 10).symm
theorem add32 (x y : UInt32) : (un32 x + un32 y) % 4294967296 = un32 (x + y) := (un32_add x y).symm
section
attribute [local go_sem] un8_mod32 or32 shl24 shl16 shl8 xor32 shr3 shr10 add32
set_option maxRecDepth 100000 in
set_option maxHeartbeats 4000000 in
theorem spread_any (A : Option Addr) (c : Nat) (l : List UInt8) (w : World) (hl : l.length = 64) (hr : RB w A l) :
    Calls Try.prog 92 #[.slice A 64 c] w fun e w' => e = .returned (.agg (wv (sched l 64)).toArray) ∧ Below w.heap.size w w' := by
  have HR := Lib.hid hr
  have HL := Lib.hid hl
  clear hr hl
  go_enter Try.func92, Try.ntmps92
  go_wp2_with fail
  go_loopg [9] 64 (fun k s9 wr => ∃ i : Nat, i ≤ 64 ∧ k = 64 - i ∧ s9 = .int .i64 (i : Int) ∧ Arr wr w.heap.size 142 (wv (List.replicate 64 0)) ∧ Arr wr (w.heap.size + 1) 142 (wv (schedZ l i)) ∧ Below w.heap.size w wr)
  case atStart => exact ⟨0, by omega, by omega, rfl, (Arr.new w 142 (wv (List.replicate 64 0))).alloc _, by rw [show schedZ l 0 = List.replicate 64 0 from rfl]; exact Arr.new_at _ 142 (wv (List.replicate 64 0)) _ (by simp), ((Below.refl _ _).alloc (Nat.le_refl _) _).alloc (by simp) _⟩
  case round =>
    obtain ⟨i, hi, hk, rfl, ha0, ha1, hb⟩ := hrel
    have HK := Lib.hid hk
    have HI := Lib.hid hi
    have H0 := Lib.hid ha0
    have H1 := Lib.hid ha1
    have HB := Lib.hid hb
    clear hk ha0 ha1 hb
    by_cases hlt : i < 64
    · by_cases h16 : i < 16
      · have hlen := HL.out
        obtain ⟨b, o, rfl, hcb⟩ := HR.out.parts (by omega)
        obtain ⟨k, hk⟩ : ∃ k : Nat, k = 4 * i := ⟨_, rfl⟩
        have hcs : ∀ j, j < 64 → wr.cell? ⟨b, o + j, none⟩ = some (.int .u8 (un8 (bt l j))) := by
          intro j hj
          rw [bt_get l j (by omega)]
          exact cell_below HB.out (hcb j (by omega))
        have hc0 := hcs k (by omega)
        have hc1 := hcs (k + 1) (by omega)
        have hc2 := hcs (k + 2) (by omega)
        have hc3 := hcs (k + 3) (by omega)
        have hk4 : 4 * (i : Int) = (k : Int) := by omega
        have hb1 : (k : Int) ≤ 60 := by omega
        have hb2 : (i : Int) < 64 := by omega
        have hb3 : (0 : Int) ≤ (i : Int) := by omega
        have hb4 : (0 : Int) ≤ (k : Int) := by omega
        have hb5 : (i : Int) < 16 := by omega
        have hcw := H1.out.word (i := i) (by rw [schedZ_length _ _ hi]; exact hlt)
        have hfw := H1.out.frozen i
        have HK4 := Lib.hid hk
        clear hcs hcb hlen hk
        go_upto_region 6 with fail
        go_region
        all_goals
          go_wp2_with fail
          go_roundg (64 - (i + 1))
          case measure => have := HK.out; omega
          case rel =>
            refine ⟨i + 1, by omega, rfl, by go_num, H0.out.set_other _ (by simp) _, ?_, (HB.out.setCell (by simp) _).drew⟩
            have h2 := H1.out.set i (W32 (be32 l k))
            rw [show (wv (schedZ l i)).set i (W32 (be32 l k)) = wv (schedZ l (i + 1)) by
              rw [schedZ_succ l i hlt (be32 l k) (by rw [HK4.out]; exact sched_lo l i h16), ← wv_set]; rfl] at h2
            exact h2
      · obtain ⟨d, rfl⟩ : ∃ d, i = d + 16 := ⟨i - 16, by omega⟩
        have hlen : (schedZ l (d + 16)).length = 64 := schedZ_length _ _ hi
        have hw0 := H1.out.word (i := d) (by omega)
        have hw1 := H1.out.word (i := d + 1) (by omega)
        have hw9 := H1.out.word (i := d + 9) (by omega)
        have hw14 := H1.out.word (i := d + 14) (by omega)
        have hw16 := H1.out.word (i := d + 16) (by omega)
        rw [schedZ_wd _ _ _ (by omega)] at hw0 hw1 hw9 hw14
        have hfw := H1.out.frozen (d + 16)
        have HS := Lib.hid (sched_hi l (d + 16) h16)
        rw [show d + 16 - 16 = d by omega, show d + 16 - 15 = d + 1 by omega, show d + 16 - 7 = d + 9 by omega, show d + 16 - 2 = d + 14 by omega] at HS
        have hb1 : (d : Int) < 48 := by omega
        have hb2 : (0 : Int) ≤ (d : Int) := by omega
        generalize wd (sched l (d + 16)) d = x0 at *
        generalize wd (sched l (d + 16)) (d + 1) = x1 at *
        generalize wd (sched l (d + 16)) (d + 9) = x9 at *
        generalize wd (sched l (d + 16)) (d + 14) = x14 at *
        have HLT := Lib.hid hlt
        clear hlen hlt hi h16
        go_upto_region 7 with fail
        go_region
        all_goals
          have H0' := Lib.hid (Arr.drew H0.out)
          have H1' := Lib.hid (Arr.drew H1.out)
          have HB' := Lib.hid (Below.drew HB.out)
          have hw0' : wr.drew.cell? _ = _ := hw0
          have hw9' : wr.drew.cell? _ = _ := hw9
          have hw16' : wr.drew.cell? _ = _ := hw16
          have hfw' : wr.drew.frozen? _ = _ := hfw
          clear hw0 hw1 hw9 hw14 hw16 hfw H0 H1 HB
          generalize wr.drew = wd at *
          have HX0 := Lib.hid hw0'
          have HX9 := Lib.hid hw9'
          have HX16 := Lib.hid hw16'
          clear hw0' hw9' hw16'
          go_wp2_with fail
          refine (rot_7 _ _).mono ?_
          rintro e w1 ⟨rfl, rfl⟩
          go_wp2_with fail
          refine (rot_18 _ _).mono ?_
          rintro e w1 ⟨rfl, rfl⟩
          go_wp2_with fail
          refine (rot_17 _ _).mono ?_
          rintro e w1 ⟨rfl, rfl⟩
          go_wp2_with fail
          refine (rot_19 _ _).mono ?_
          rintro e w1 ⟨rfl, rfl⟩
          have hw0' := HX0.out
          have hw9' := HX9.out
          have hw16' := HX16.out
          go_upto_region 10 with fail
          go_region
          all_goals
            go_wp2_with fail
            go_roundg (64 - (d + 16 + 1))
            case measure => have := HK.out; have := HLT.out; omega
            case rel =>
              refine ⟨d + 16 + 1, HLT.out, rfl, rfl, H0'.out.set_other _ (by simp) _, ?_, (HB'.out.setCell (by simp) _).drew⟩
              have h2 := H1'.out.set (d + 16) (W32 (x0 + sig0 x1 + x9 + sig1 x14))
              rw [show (wv (schedZ l (d + 16))).set (d + 16) (W32 (x0 + sig0 x1 + x9 + sig1 x14)) = wv (schedZ l (d + 16 + 1)) by
                rw [schedZ_succ l (d + 16) HLT.out _ HS.out, ← wv_set]; rfl] at h2
              exact h2
    · obtain rfl : i = 64 := by omega
      obtain ⟨cs, hcs⟩ : ∃ cs, cs = (wv (sched l 64)).toArray := ⟨_, rfl⟩
      have hz : wr.heap[w.heap.size + 1]? = some (.cells cs 142) := by rw [hcs, ← schedZ_done]; exact H1.out
      have hsz : (Try.prog.info? 142).map (·.size) = some cs.size := by
        rw [hcs, List.size_toArray, wv_length, sched_length]; kernel_rfl
      have hs64 : (wv (List.replicate 64 0)).toArray.size = cs.size := by rw [hcs, List.size_toArray, List.size_toArray, wv_length, wv_length, sched_length]; rfl
      have hone : cs.all (·.oneCell') = true := by rw [hcs]; exact all_oneCell_toArray (wv_one _)
      have HZ := Lib.hid hz
      have HSZ := Lib.hid hsz
      have HS64 := Lib.hid hs64
      have HONE := Lib.hid hone
      have HCS := Lib.hid hcs
      clear hz hsz hs64 hone hcs hi hlt
      go_upto_region 12 with fail
      refine wp_region_lit ?_
      refine wpList_load_row rfl 142 (.tmp 3) rfl (w.heap.size + 1) rfl 142 cs (0, 0) _ HZ.out Try.underlying142 rfl HSZ.out ?_
      refine wpList_store_row rfl 142 (.tmp 2) (.tmp 89) rfl w.heap.size cs rfl rfl 142 (wv (List.replicate 64 0)).toArray H0.out HSZ.out HS64.out HONE.out ?_
      refine wpList_nil ?_
      rename_i hK
      refine hK _ _ ?_
      apply wp_ret
      refine bodyPost_ret (v := .agg cs) ?_ rfl ?_
      case refine_2 => exact ⟨by rw [HCS.out], below_setRow HB.out _ _ (Nat.le_refl _)⟩
      exact results_cell_row rfl _ _ w.heap.size 142 cs (0, 0) _ rfl (setRow_heap _ _ _ _ _ _ H0.out) Try.underlying142 rfl HSZ.out

end
end Go.Proofs.Ytjakhemolecbnaa
end

/-
  The walk of sum.rounds.
-/
section
set_option linter.unusedVariables false
set_option linter.unusedSimpArgs false
namespace Go.Proofs.Ytjakhemolecbnaa
open Go.RowKit

def rotz (x : UInt32) (z : Int) : UInt32 := rotr x (-z).toNat
theorem rotq (x : UInt32) (z : Int) (w : World) (hz : z = -6 ∨ z = -11 ∨ z = -25 ∨ z = -2 ∨ z = -13 ∨ z = -22) : Calls Try.prog 93 #[.int .u32 (un32 x), .int .i64 z] w fun e w' => e = .returned (.int .u32 (un32 (rotz x z))) ∧ w' = w := by
  rcases hz with rfl | rfl | rfl | rfl | rfl | rfl
  · exact (rot_6 x w).mono fun _ _ h => ⟨h.1, h.2.symm⟩
  · exact (rot_11 x w).mono fun _ _ h => ⟨h.1, h.2.symm⟩
  · exact (rot_25 x w).mono fun _ _ h => ⟨h.1, h.2.symm⟩
  · exact (rot_2 x w).mono fun _ _ h => ⟨h.1, h.2.symm⟩
  · exact (rot_13 x w).mono fun _ _ h => ⟨h.1, h.2.symm⟩
  · exact (rot_22 x w).mono fun _ _ h => ⟨h.1, h.2.symm⟩

/-- The memory of rounds: the state h, the words, the constants, the copy v. -/
structure RSt (w wr : World) (g : Nat) (hs : List UInt32) (ws : List UInt32) (v : St) : Prop where
  a0 : Arr wr g 141 (wv hs)
  a1 : Arr wr w.heap.size 142 (wv ws)
  a2 : Arr wr (w.heap.size + 1) 142 (wv shaK)
  a3 : Arr wr (w.heap.size + 2) 141 (wv v.list)
  u : Upd (fun k => k = g) w wr
  lt : g < w.heap.size
theorem RSt.drew {w wr : World} {g : Nat} {hs ws : List UInt32} {v : St} (h : RSt w wr g hs ws v) : RSt w wr.drew g hs ws v := ⟨h.a0, h.a1, h.a2, h.a3, h.u.drew, h.lt⟩
theorem RSt.drewN {w wr : World} {g : Nat} {hs ws : List UInt32} {v : St} (h : RSt w wr g hs ws v) (n : Nat) : RSt w (wr.drewN n) g hs ws v := ⟨h.a0, h.a1, h.a2, h.a3, h.u.drewN n, h.lt⟩
theorem RSt.turn {w wr : World} {g : Nat} {hs ws : List UInt32} {v : St} (h : RSt w wr g hs ws v) (v' : St) : RSt w (wr.setRow (w.heap.size + 2) (wv v'.list).toArray) g hs ws v' := by
  have := h.lt
  exact ⟨h.a0.setRow_other _ _ (by omega), h.a1.setRow_other _ _ (by omega), h.a2.setRow_other _ _ (by omega), h.a3.setRow _, upd_setRow h.u _ _ (by omega), h.lt⟩
theorem RSt.cells {w wr : World} {g : Nat} {hs ws : List UInt32} {a b c d e f h7 h8 : UInt32} (h : RSt w wr g hs ws ⟨a, b, c, d, e, f, h7, h8⟩) :
    wr.cell? ⟨w.heap.size + 2, 0, none⟩ = some (.int .u32 (un32 a)) ∧ wr.cell? ⟨w.heap.size + 2, 1, none⟩ = some (.int .u32 (un32 b)) ∧ wr.cell? ⟨w.heap.size + 2, 2, none⟩ = some (.int .u32 (un32 c)) ∧
    wr.cell? ⟨w.heap.size + 2, 3, none⟩ = some (.int .u32 (un32 d)) ∧ wr.cell? ⟨w.heap.size + 2, 4, none⟩ = some (.int .u32 (un32 e)) ∧ wr.cell? ⟨w.heap.size + 2, 5, none⟩ = some (.int .u32 (un32 f)) ∧
    wr.cell? ⟨w.heap.size + 2, 6, none⟩ = some (.int .u32 (un32 h7)) ∧ wr.cell? ⟨w.heap.size + 2, 7, none⟩ = some (.int .u32 (un32 h8)) :=
  ⟨h.a3.cell (i := 0) rfl, h.a3.cell (i := 1) rfl, h.a3.cell (i := 2) rfl, h.a3.cell (i := 3) rfl, h.a3.cell (i := 4) rfl, h.a3.cell (i := 5) rfl, h.a3.cell (i := 6) rfl, h.a3.cell (i := 7) rfl⟩
/-- The state's words when i of them are added to. -/
def mixL (l m : List UInt32) (i : Nat) : List UInt32 := (List.range 8).map fun j => if j < i then wd l j + wd m j else wd l j
theorem mixL_length (l m : List UInt32) (i : Nat) : (mixL l m i).length = 8 := by simp [mixL]
theorem mixL_zero (s v : St) : mixL s.list v.list 0 = s.list := rfl
theorem mixL_done (s v : St) : mixL s.list v.list 8 = (addSt s v).list := rfl
theorem mixL_at (l m : List UInt32) (i : Nat) (h : i < 8) : wd (mixL l m i) i = wd l i := by
  simp [wd, mixL, List.getElem?_range h]
theorem mixL_succ (l m : List UInt32) (i : Nat) (h : i < 8) : (mixL l m i).set i (wd l i + wd m i) = mixL l m (i + 1) := by
  apply List.ext_getElem?
  intro j
  rw [List.getElem?_set]
  by_cases hj : j < 8
  · by_cases e : i = j
    · subst e
      simp [mixL, hj]
    · have h1 : (j < i) = (j < i + 1) := by simp only [eq_iff_iff]; omega
      simp [mixL, hj, e, h1]
  · have h1 : ¬ i = j := by omega
    simp [mixL, hj, h1]
theorem RSt.add {w wr : World} {g : Nat} {hs ws : List UInt32} {v : St} (h : RSt w wr g hs ws v) (i : Nat) (x : UInt32) : RSt w (wr.setCell ⟨g, i, none⟩ (.int .u32 (un32 x))) g (hs.set i x) ws v := by
  have := h.lt
  exact ⟨by rw [← wv_set]; exact h.a0.set _ _, h.a1.set_other _ (by simp; omega) _, h.a2.set_other _ (by simp; omega) _, h.a3.set_other _ (by simp; omega) _, h.u.setCell (fun _ => rfl) _, h.lt⟩
theorem stSize (v : St) : (wv v.list).toArray.size = 8 := rfl
theorem info88 : (Try.prog.info? 141).map (·.size) = some 8 := by kernel_rfl
theorem ones32 (x : UInt32) : bits .xor .u32 (if IntKind.u32.signed = true then -1 else IntKind.u32.max) (un32 x) = un32 (x ^^^ 0xffffffff) := notOnes x

section
attribute [local go_sem] xor32 and32 add32 ones32
set_option maxRecDepth 100000 in
set_option maxHeartbeats 4000000 in
theorem rounds_any (g : Nat) (s : St) (ws : List UInt32) (w : World) (hl : ws.length = 64) (ha : Arr w g 141 (wv s.list)) :
    Calls Try.prog 91 #[.pointer (some ⟨g, 0, none⟩), .agg (wv ws).toArray] w fun e w' => e = .returned (.tuple #[]) ∧ Arr w' g 141 (wv (addSt s (roundsAt ws s 64)).list) ∧ Upd (fun k => k = g) w w' := by
  obtain ⟨cs, hcs⟩ : ∃ cs, cs = (wv ws).toArray := ⟨_, rfl⟩
  rw [← hcs]
  have HCS := Lib.hid hcs
  have HL := Lib.hid hl
  have HA := Lib.hid ha
  have hsz : cs.size = 64 := by rw [hcs, List.size_toArray, wv_length, hl]
  clear hcs hl ha
  go_enter Try.func91, Try.ntmps91
  go_upto_region 1 with fail
  refine wp_region_lit ?_
  obtain ⟨ks, hks⟩ : ∃ ks, ks = (wv shaK).toArray := ⟨_, rfl⟩
  obtain ⟨zs, hzs⟩ : ∃ zs, zs = (wv (List.replicate 64 0)).toArray := ⟨_, rfl⟩
  obtain ⟨z8, hz8⟩ : ∃ z8, z8 = (wv (List.replicate 8 0)).toArray := ⟨_, rfl⟩
  obtain ⟨ss, hss⟩ : ∃ ss, ss = (wv s.list).toArray := ⟨_, rfl⟩
  have hkz : (Try.prog.info? 142).map (·.size) = some ks.size := by rw [hks]; kernel_rfl
  have hkz8 : (Try.prog.info? 141).map (·.size) = some ss.size := by rw [hss, stSize]; exact info88
  refine Great.wpList_readTo rfl _ rfl (.agg ks) ?x0 ?_
  case x0 => rw [hks]; kernel_rfl
  refine Great.wpList_allocTo rfl _ rfl (.pointer (some ⟨w.heap.size + 1, 0, none⟩)) (.cells zs 142) ?x1 ?_
  case x1 => rw [hzs, show w.heap.size + 1 = (w.alloc (.cells cs 142)).heap.size by simp]; kernel_rfl
  refine wpList_store_row rfl 142 (.tmp 4) (.tmp 12) rfl (w.heap.size + 1) ks rfl rfl 142 zs (by rw [hzs]; exact Arr.new_at _ _ _ _ (by simp)) hkz (by rw [hzs, hks]; rfl) (by rw [hks]; exact all_oneCell_toArray (wv_one _)) ?_
  refine wpList_nil ?_
  rename_i hK
  refine hK _ _ ?_
  clear hK
  have hW : ∃ W, W = ((w.alloc (.cells cs 142)).alloc (.cells zs 142)).setRow (w.heap.size + 1) ks := ⟨_, rfl⟩
  obtain ⟨W, hW⟩ := hW
  rw [← hW]
  have hg : g < w.heap.size := HA.out.lt
  have hAg : Arr W g 141 (wv s.list) := by rw [hW]; exact ((HA.out.alloc _).alloc _).setRow_other _ _ (by omega)
  have hA0 : Arr W w.heap.size 142 (wv ws) := by
    rw [hW, HCS.out]; exact ((Arr.new w 142 (wv ws)).alloc _).setRow_other _ _ (by omega)
  have hA1 : Arr W (w.heap.size + 1) 142 (wv shaK) := by
    rw [hW, hks, hzs]; exact Arr.setRow (Arr.new_at _ _ (wv (List.replicate 64 0)) _ (by simp)) _
  have hU : Upd (fun k => k = g) w W := by rw [hW]; exact upd_setRow (((Upd.refl _ w).alloc _).alloc _) _ _ (by omega)
  have hWs : W.heap.size = w.heap.size + 2 := by rw [hW]; simp
  have HG := Lib.hid hg
  have HAG := Lib.hid hAg
  have HA0 := Lib.hid hA0
  have HA1 := Lib.hid hA1
  have HU := Lib.hid hU
  have HWS := Lib.hid hWs
  clear hAg hA0 hA1 hU hW hzs hkz hWs hg
  go_upto_region 2 with fail
  refine wp_region_lit ?_
  refine Great.wpList_readTo rfl _ rfl (.pointer (some ⟨g, 0, none⟩)) ?x2 ?_
  case x2 => kernel_rfl
  refine Great.wpList_readTo rfl _ rfl (.pointer (some ⟨g, 0, none⟩)) ?x3 ?_
  case x3 => kernel_rfl
  refine wpList_load_row rfl 141 (.tmp 14) rfl g rfl 141 ss (0, 0) _ (by rw [hss]; exact HAG.out) Try.underlying141 rfl hkz8 ?_
  refine Great.wpList_allocTo rfl _ rfl (.pointer (some ⟨w.heap.size + 2, 0, none⟩)) (.cells z8 141) ?x4 ?_
  case x4 => rw [hz8, ← HWS.out]; kernel_rfl
  refine wpList_store_row rfl 141 (.tmp 5) (.tmp 15) rfl (w.heap.size + 2) ss rfl rfl 141 z8 (by rw [hz8]; exact Arr.new_at _ _ _ _ HWS.out.symm) hkz8 (by rw [hz8, hss]; rfl) (by rw [hss]; exact all_oneCell_toArray (wv_one _)) ?_
  refine wpList_nil ?_
  rename_i hK
  refine hK _ _ ?_
  clear hK
  have hV : ∃ V, V = (W.alloc (.cells z8 141)).setRow (w.heap.size + 2) ss := ⟨_, rfl⟩
  obtain ⟨V, hV⟩ := hV
  rw [← hV]
  have hg := HG.out
  have hBg : Arr V g 141 (wv s.list) := by rw [hV]; exact (HAG.out.alloc _).setRow_other _ _ (by omega)
  have hB0 : Arr V w.heap.size 142 (wv ws) := by rw [hV]; exact (HA0.out.alloc _).setRow_other _ _ (by omega)
  have hB1 : Arr V (w.heap.size + 1) 142 (wv shaK) := by rw [hV]; exact (HA1.out.alloc _).setRow_other _ _ (by omega)
  have hB2 : Arr V (w.heap.size + 2) 141 (wv s.list) := by rw [hV, hss, hz8]; exact Arr.setRow (Arr.new_at _ _ (wv (List.replicate 8 0)) _ HWS.out.symm) _
  have hU : Upd (fun k => k = g) w V := by rw [hV]; exact upd_setRow (HU.out.alloc _) _ _ (by omega)
  have HR := Lib.hid (RSt.mk hBg hB0 hB1 hB2 hU hg)
  clear hBg hB0 hB1 hB2 hU hV hg HAG HA0 HA1 HU HWS hkz8 hss hz8 hks HG
  go_wp2_with fail
  go_loopg [16] 64 (fun k s16 wr => ∃ i : Nat, i ≤ 64 ∧ k = 64 - i ∧ s16 = .int .i64 (i : Int) ∧ RSt w wr g s.list ws (roundsAt ws s i))
  case atStart => exact ⟨0, by omega, by omega, rfl, HR.out⟩
  case round =>
    obtain ⟨i, hi, hk, rfl, hr⟩ := hrel
    clear HR
    have HK := Lib.hid hk
    clear hk
    by_cases hlt : i < 64
    · have HN := Lib.hid (show rnd (roundsAt ws s i) (wd shaK i) (wd ws i) = roundsAt ws s (i + 1) from rfl)
      generalize roundsAt ws s i = v at *
      obtain ⟨a, b, c, d, e, f, h7, h8⟩ := v
      have hlen := HL.out
      obtain ⟨c0, c1, c2, c3, c4, c5, c6, c7⟩ := hr.cells
      obtain ⟨kw, hkw⟩ : ∃ kw, kw = wd shaK i := ⟨_, rfl⟩
      obtain ⟨ww, hww⟩ : ∃ ww, ww = wd ws i := ⟨_, rfl⟩
      have ck : ∀ wx, RSt w wx g s.list ws ⟨a, b, c, d, e, f, h7, h8⟩ → wx.cell? ⟨w.heap.size + 1, i, none⟩ = some (.int .u32 (un32 kw)) := by
        intro wx hx
        rw [hkw]; exact hx.a2.word (i := i) (by exact hlt)
      have cw : ∀ wx, RSt w wx g s.list ws ⟨a, b, c, d, e, f, h7, h8⟩ → wx.cell? ⟨w.heap.size, i, none⟩ = some (.int .u32 (un32 ww)) := by
        intro wx hx
        rw [hww]; exact hx.a1.word (i := i) (by omega)
      rw [← hkw, ← hww] at HN
      have CK := Lib.hid ck
      have CW := Lib.hid cw
      clear ck cw hkw hww
      have HR := Lib.hid hr
      have HI := Lib.hid hlt
      have hi0 : (0 : Int) ≤ (i : Int) := by omega
      have hi1 : (i : Int) < 64 := by omega
      clear hr hlen hlt hi
      go_upto_region 6 with fail
      go_quiet ((go_at_call 93; exact Calls.quiet_of_same (rotq _ _ _ (by decide))))
      have HR1 := Lib.hid (HR.out.drewN nq)
      clear c0 c1 c2 c3 c4 c5 c6 c7 HR
      generalize wr.drewN nq = w1 at *
      clear nq
      obtain ⟨c0, c1, c2, c3, c4, c5, c6, c7⟩ := HR1.out.cells
      have ck := CK.out _ HR1.out
      have cw := CW.out _ HR1.out
      go_upto_region 7 with fail
      go_quiet (fail)
      have HR2 := Lib.hid (HR1.out.drewN nq)
      clear c0 c1 c2 c3 c4 c5 c6 c7 ck cw HR1 CK CW
      generalize w1.drewN nq = w2 at *
      clear nq
      obtain ⟨c0, c1, c2, c3, c4, c5, c6, c7⟩ := HR2.out.cells
      go_upto_region 8 with fail
      go_quiet ((go_at_call 93; exact Calls.quiet_of_same (rotq _ _ _ (by decide))))
      have HR3 := Lib.hid (HR2.out.drewN nq)
      clear c0 c1 c2 c3 c4 c5 c6 c7 HR2
      generalize w2.drewN nq = w3 at *
      clear nq
      obtain ⟨c0, c1, c2, c3, c4, c5, c6, c7⟩ := HR3.out.cells
      go_upto_region 10 with fail
      simp only [ones32, xor32, and32, add32]
      obtain ⟨vs, hvs⟩ : ∃ vs, vs = (wv (rnd ⟨a, b, c, d, e, f, h7, h8⟩ kw ww).list).toArray := ⟨_, rfl⟩
      have HT := HR3.out.turn (rnd ⟨a, b, c, d, e, f, h7, h8⟩ kw ww)
      rw [HN.out, ← HN.out, ← hvs, HN.out] at HT
      have HV := Lib.hid hvs
      have HT' := Lib.hid HT
      have hvz : (Try.prog.info? 141).map (·.size) = some vs.size := by rw [hvs, stSize]; exact info88
      have HVZ := Lib.hid hvz
      clear hvs HT hvz
      go_wp2_with (refine wpList_store_row rfl 141 (.tmp 5) (.tmp 104) rfl (w.heap.size + 2) vs rfl (by rw [HV.out]; rfl) 141 _ HR3.out.a3 HVZ.out (by rw [HV.out]; exact (stSize _).trans (stSize _).symm) (by rw [HV.out]; exact all_oneCell_toArray (wv_one _)) ?_)
      go_roundg (64 - (i + 1))
      case measure => have := HK.out; have := HI.out; omega
      case rel => exact ⟨i + 1, HI.out, rfl, by go_num, HT'.out⟩
    · obtain rfl : i = 64 := by omega
      obtain ⟨v, hv⟩ : ∃ v, v = roundsAt ws s 64 := ⟨_, rfl⟩
      rw [← hv] at hr
      have HVV := Lib.hid hv
      clear hv
      have HR := Lib.hid hr
      clear hr hlt hi
      go_wp2_with fail
      go_loopg [106] 8 (fun k s106 wr => ∃ i : Nat, i ≤ 8 ∧ k = 8 - i ∧ s106 = .int .i64 (i : Int) ∧ RSt w wr g (mixL s.list v.list i) ws v)
      case atStart => exact ⟨0, by omega, by omega, rfl, by rw [mixL_zero]; exact HR.out⟩
      case round =>
        rename_i wo gk2 wr2
        obtain ⟨i, hi, hk2, rfl, hr⟩ := hrel
        clear HR
        have HK2 := Lib.hid hk2
        clear hk2
        by_cases hlt : i < 8
        · have cg := hr.a0.word (i := i) (by rw [mixL_length]; exact hlt)
          have cs' := hr.a3.word (i := i) hlt
          rw [mixL_at _ _ _ hlt] at cg
          have cf := hr.a0.frozen i
          have HN := Lib.hid (mixL_succ s.list v.list i hlt)
          generalize wd s.list i = x at *
          generalize wd v.list i = y at *
          have HR := Lib.hid hr
          have HI := Lib.hid hlt
          have hi0 : (0 : Int) ≤ (i : Int) := by omega
          have hi1 : (i : Int) < 8 := by omega
          clear hr hi hlt
          go_upto_region 15 with fail
          go_region
          all_goals
            go_wp2_with fail
            go_roundg (8 - (i + 1))
            case measure => have := HK2.out; have := HI.out; omega
            case rel => exact ⟨i + 1, HI.out, rfl, by go_num, by rw [← HN.out]; exact (HR.out.drew.add i (x + y))⟩
        · obtain rfl : i = 8 := by omega
          rw [mixL_done] at hr
          have HR := Lib.hid hr
          clear hr hlt hi
          go_wp2_with fail
          go_end0
          exact ⟨rfl, by rw [← HVV.out]; exact HR.out.a0, HR.out.u⟩
end

end Go.Proofs.Ytjakhemolecbnaa
end

/-
  The walk of sum.Sha.
-/
section
set_option linter.unusedVariables false
set_option linter.unusedSimpArgs false
namespace Go.Proofs.Ytjakhemolecbnaa
open Go.RowKit

theorem info72 : (Try.prog.info? 86).map (·.size) = some 32 := by kernel_rfl
theorem own_sub {w : World} {base g n c : Nat} {e : TypeId} {l : List UInt8} (h : w.ownsRow base e 1 (.slice (some ⟨g, 0, none⟩) n c) n (bv l)) (k m : Nat) (hk : k + m ≤ l.length) : RB w (some ⟨g, k, none⟩) ((l.drop k).take m) := by
  intro h0
  refine ⟨_, rfl, fun j hj => ?_⟩
  have hj' : k + j < l.length := by simp at hj; omega
  rw [add_off, own_byte h (k + j) hj']
  simp

set_option maxRecDepth 100000 in
theorem idx8 (st : St) (i : Nat) (hi : i < 8) (w : World) : (Instr.index 141 (.agg (wv st.list).toArray) (.int .i64 (i : Int))).run Try.prog w = .ok (.int .u32 (un32 (wd st.list i))) w := by
  have h : i = 0 ∨ i = 1 ∨ i = 2 ∨ i = 3 ∨ i = 4 ∨ i = 5 ∨ i = 6 ∨ i = 7 := by omega
  clear hi
  rcases h with rfl | rfl | rfl | rfl | rfl | rfl | rfl | rfl <;> rfl
def b24 (x : UInt32) : UInt8 := UInt8.ofNat (x.toNat / 2 ^ 24)
def b16 (x : UInt32) : UInt8 := UInt8.ofNat (x.toNat / 2 ^ 16)
def b08 (x : UInt32) : UInt8 := UInt8.ofNat (x.toNat / 2 ^ 8)
def b00 (x : UInt32) : UInt8 := UInt8.ofNat x.toNat
theorem be4_eq (x : UInt32) : be4 x = [b24 x, b16 x, b08 x, b00 x] := rfl
theorem un8_ofNat (n : Nat) : un8 (UInt8.ofNat n) = ((n % 256 : Nat) : Int) := by
  unfold un8
  rw [show ∀ m : Nat, (UInt8.ofNat m).toNat = m % 256 from fun m => UInt8.toNat_ofNat']
theorem cut24 (x : UInt32) : un32 x / 16777216 % 256 = un8 (b24 x) := by unfold b24; rw [un8_ofNat]; unfold un32; omega
theorem cut16 (x : UInt32) : un32 x / 65536 % 256 = un8 (b16 x) := by unfold b16; rw [un8_ofNat]; unfold un32; omega
theorem cut08 (x : UInt32) : un32 x / 256 % 256 = un8 (b08 x) := by unfold b08; rw [un8_ofNat]; unfold un32; omega
theorem cut00 (x : UInt32) : un32 x % 256 = un8 (b00 x) := by unfold b00; rw [un8_ofNat]; unfold un32; omega
/-- What is written when i words are. -/
def outL (l : List UInt32) (i : Nat) : List UInt8 := (l.take i).flatMap be4 ++ List.replicate (32 - 4 * i) 0
theorem outL_length (st : St) (i : Nat) (h : i ≤ 8) : (outL st.list i).length = 32 := by
  have h : i = 0 ∨ i = 1 ∨ i = 2 ∨ i = 3 ∨ i = 4 ∨ i = 5 ∨ i = 6 ∨ i = 7 ∨ i = 8 := by omega
  rcases h with rfl | rfl | rfl | rfl | rfl | rfl | rfl | rfl | rfl <;> rfl
theorem outL_done (st : St) : outL st.list 8 = st.list.flatMap be4 := by simp [outL, St.list]
theorem outL_succ (st : St) (i k : Nat) (h : i < 8) (hk : k = 4 * i) (x : UInt32) (hx : x = wd st.list i) : ((((outL st.list i).set k (b24 x)).set (k + 1) (b16 x)).set (k + 2) (b08 x)).set (k + 3) (b00 x) = outL st.list (i + 1) := by
  subst hk hx
  have h : i = 0 ∨ i = 1 ∨ i = 2 ∨ i = 3 ∨ i = 4 ∨ i = 5 ∨ i = 6 ∨ i = 7 := by omega
  rcases h with rfl | rfl | rfl | rfl | rfl | rfl | rfl | rfl <;> rfl
theorem bv_set (l : List UInt8) (i : Nat) (x : UInt8) : (bv l).set i (.int .u8 (un8 x)) = bv (l.set i x) := by simp [bv, List.map_set, B8]

/-- The memory of Sha's first loop. -/
structure HSt (w wr : World) (v : Value) (p : List UInt8) (s : St) : Prop where
  a0 : Arr wr w.heap.size 86 (bv (List.replicate 32 0))
  a1 : Arr wr (w.heap.size + 1) 141 (wv s.list)
  own : wr.ownsRow (w.heap.size + 2) 5 1 v p.length (bv p)
  b : Below w.heap.size w wr

theorem HSt.below {w wr wr' : World} {v : Value} {p : List UInt8} {s : St} (h : HSt w wr v p s) (hb : Below wr.heap.size wr wr') : HSt w wr' v p s :=
  ⟨h.a0.below hb h.a0.lt, h.a1.below hb h.a1.lt, own_below h.own hb, below_below h.b h.b.size hb⟩
theorem HSt.turn {w wr wr' : World} {v : Value} {p : List UInt8} {s s' : St} (h : HSt w wr v p s) (hu : Upd (fun k => k = w.heap.size + 1) wr wr') (ha : Arr wr' (w.heap.size + 1) 141 (wv s'.list)) : HSt w wr' v p s' :=
  ⟨h.a0.upd hu (by omega), ha, own_upd h.own hu (fun k hk => by have := (World.ownsRow.lt h.own k hk).1; omega), below_upd h.b h.b.size hu (fun k hk => by omega)⟩

section
attribute [local go_sem] cut24 cut16 cut08 cut00
set_option maxRecDepth 100000 in
set_option maxHeartbeats 4000000 in
theorem sha_any (A : Option Addr) (n c : Nat) (l : List UInt8) (w : World) (hl : l.length = n) (hn : n ≤ 100000000) (hr : RB w A l) :
    Calls Try.prog 89 #[.slice A n c] w fun e w' => e = .returned (.agg (bv (shaOf l)).toArray) ∧ Below w.heap.size w w' := by
  subst hl
  have HR := Lib.hid hr
  clear hr
  go_enter Try.func89, Try.ntmps89
  obtain ⟨z32, hz32⟩ : ∃ z32, z32 = (bv (List.replicate 32 0)).toArray := ⟨_, rfl⟩
  obtain ⟨z8, hz8⟩ : ∃ z8, z8 = (wv (List.replicate 8 0)).toArray := ⟨_, rfl⟩
  obtain ⟨s8, hs8⟩ : ∃ s8, s8 = (wv h0.list).toArray := ⟨_, rfl⟩
  have hkz : (Try.prog.info? 141).map (·.size) = some s8.size := by rw [hs8, stSize]; exact info88
  go_upto_region 0 with fail
  refine wp_region_lit ?_
  refine Great.wpList_allocTo rfl _ rfl (.pointer (some ⟨w.heap.size, 0, none⟩)) (.cells z32 86) ?x1 ?_
  case x1 => rw [hz32]; kernel_rfl
  refine wpList_nil ?_
  rename_i hK
  refine hK _ _ ?_
  clear hK
  obtain ⟨w1, hw1⟩ : ∃ w1, w1 = w.alloc (.cells z32 86) := ⟨_, rfl⟩
  rw [← hw1]
  have hs1 : w1.heap.size = w.heap.size + 1 := by rw [hw1]; simp
  have hA0 : Arr w1 w.heap.size 86 (bv (List.replicate 32 0)) := by rw [hw1, hz32]; exact Arr.new _ _ _
  have hB1 : Below w.heap.size w w1 := by rw [hw1]; exact (Below.refl _ _).alloc (Nat.le_refl _) _
  clear hw1 hz32
  have HA0 := Lib.hid hA0
  have HB1 := Lib.hid hB1
  have HS1 := Lib.hid hs1
  have HKZ := Lib.hid hkz
  clear hA0 hB1 hs1 hkz
  go_upto_region 1 with fail
  refine wp_region_lit ?_
  refine Great.wpList_readTo rfl _ rfl (.agg s8) ?x2 ?_
  case x2 => rw [hs8]; kernel_rfl
  refine Great.wpList_allocTo rfl _ rfl (.pointer (some ⟨w.heap.size + 1, 0, none⟩)) (.cells z8 141) ?x3 ?_
  case x3 => rw [hz8, ← HS1.out]; kernel_rfl
  refine wpList_store_row rfl 141 (.tmp 3) (.tmp 9) rfl (w.heap.size + 1) s8 rfl rfl 141 z8 (by rw [hz8]; exact Arr.new_at _ _ _ _ HS1.out.symm) HKZ.out (by rw [hz8, hs8]; rfl) (by rw [hs8]; exact all_oneCell_toArray (wv_one _)) ?_
  refine wpList_nil ?_
  rename_i hK
  refine hK _ _ ?_
  clear hK
  obtain ⟨w2, hw2⟩ : ∃ w2, w2 = (w1.alloc (.cells z8 141)).setRow (w.heap.size + 1) s8 := ⟨_, rfl⟩
  rw [← hw2]
  have hs1 := HS1.out
  have hs2 : w2.heap.size = w.heap.size + 2 := by rw [hw2]; simp [hs1]
  have hA0 : Arr w2 w.heap.size 86 (bv (List.replicate 32 0)) := by rw [hw2]; exact (HA0.out.alloc _).setRow_other _ _ (by omega)
  have hA1 : Arr w2 (w.heap.size + 1) 141 (wv h0.list) := by rw [hw2, hs8, hz8]; exact Arr.setRow (Arr.new_at _ _ (wv (List.replicate 8 0)) _ hs1.symm) _
  have hB2 : Below w.heap.size w w2 := by rw [hw2]; exact below_setRow (HB1.out.alloc HB1.out.size _) _ _ (by omega)
  clear hw2 hz8 hs8 HA0 HB1 HS1 HKZ hs1
  have HA0 := Lib.hid hA0
  have HA1 := Lib.hid hA1
  have HB2 := Lib.hid hB2
  have HS2 := Lib.hid hs2
  clear hA0 hA1 hB2 hs2
  go_wp2_with fail
  refine (padded_any A l.length c l w2 rfl hn (HR.out.below HB2.out)).mono ?_
  rintro e w3 ⟨v, rfl, hown, hb3⟩
  have hs2 := HS2.out
  have hst : HSt w w3 v (padOf l) h0 := ⟨HA0.out.below hb3 (by omega), HA1.out.below hb3 (by omega), by rw [← hs2]; exact hown, below_below HB2.out HB2.out.size hb3⟩
  have HST := Lib.hid hst
  have HN := Lib.hid (padOf_length l)
  have HM := Lib.hid (padOf_mod l)
  clear hst hown hb3 hs2 HA0 HA1 HB2 HS2
  obtain ⟨p, hp⟩ : ∃ p, p = padOf l := ⟨_, rfl⟩
  rw [← hp] at HST HN HM
  have HP := Lib.hid hp
  clear hp
  obtain ⟨g, cc, rfl, hbg, hcc⟩ := own_form HST.out.own (by have := HN.out; omega)
  clear hbg
  have hlen : p.length ≤ 100000100 := by have := HN.out; have := padZ_lt l.length; omega
  go_wp2_with fail
  obtain ⟨N, hN⟩ : ∃ N, p.length = 64 * N := ⟨p.length / 64, by have := HM.out; omega⟩
  have HNN := Lib.hid hN
  clear hN
  go_loopg [5] N (fun k s5 wr => ∃ i m : Nat, i ≤ N ∧ k = N - i ∧ m = 64 * i ∧ s5 = .int .i64 (m : Int) ∧ HSt w wr (.slice (some ⟨g, 0, none⟩) p.length cc) p (stAt p i))
  case atStart => exact ⟨0, 0, by omega, by omega, rfl, rfl, HST.out⟩
  case round =>
    obtain ⟨i, m, hi, hk, hm, rfl, hst⟩ := hrel
    clear HST
    have HST := Lib.hid hst
    have HK := Lib.hid hk
    have hN := HNN.out
    by_cases hlt : i < N
    · have h1 : (m : Int) < (p.length : Int) := by omega
      have h2 : (m : Int) + 64 ≤ (cc : Int) := by omega
      have h3 : (0 : Int) ≤ (m : Int) := by omega
      have h4 : ¬ cc = m := by omega
      have h5 : (m : Int) + 64 ≤ (p.length : Int) := by omega
      have HI := Lib.hid hlt
      have HMM := Lib.hid hm
      clear hst hk hN hlt hm hi
      go_wp2_with fail
      refine (spread_any _ _ ((p.drop m).take 64) wr (by simp; omega) (own_sub HST.out.own m 64 (by omega))).mono ?_
      rintro e w4 ⟨rfl, hb4⟩
      have HST4 := Lib.hid (HST.out.below hb4)
      have HCO := Lib.hid (show compress (stAt p i) ((p.drop m).take 64) = stAt p (i + 1) by rw [HMM.out]; rfl)
      unfold compress at HCO
      clear hb4 HST
      obtain ⟨ws, hws⟩ : ∃ ws, ws = sched ((p.drop m).take 64) 64 := ⟨_, rfl⟩
      rw [← hws] at HCO ⊢
      have hwl : ws.length = 64 := by rw [hws, sched_length]
      have HWL := Lib.hid hwl
      clear hws hwl
      go_wp2_with fail
      refine (rounds_any (w.heap.size + 1) (stAt p i) ws w4 HWL.out HST4.out.a1).mono ?_
      rintro e w5 ⟨rfl, ha5, hu5⟩
      rw [HCO.out] at ha5
      have HST5 := Lib.hid (HST4.out.turn hu5 ha5)
      clear ha5 hu5 HST4
      go_wp2_with fail
      go_roundg (N - (i + 1))
      case measure => have := HK.out; have := HI.out; omega
      case rel => exact ⟨i + 1, m + 64, HI.out, rfl, by have := HMM.out; omega, by go_num, HST5.out⟩
    · obtain rfl : i = N := by omega
      have hS : shaOf l = (stAt p i).list.flatMap be4 := by rw [shaOf, ← HP.out, hN, Nat.mul_div_cancel_left _ (by omega)]
      have HSS := Lib.hid hS
      clear hS
      generalize stAt p i = st at *
      have h1 : (m : Int) = (p.length : Int) := by omega
      clear hst hk hN hlt hi hm
      go_upto_region 7 with fail
      obtain ⟨z32, hz32⟩ : ∃ z32, z32 = (bv (List.replicate 32 0)).toArray := ⟨_, rfl⟩
      obtain ⟨q, hq⟩ : ∃ q, q = wr.heap.size := ⟨_, rfl⟩
      refine wp_region_lit ?_
      refine Great.wpList_allocTo rfl _ rfl (.pointer (some ⟨q, 0, none⟩)) (.cells z32 86) ?x1 ?_
      case x1 => rw [hz32, hq]; kernel_rfl
      refine wpList_nil ?_
      rename_i hK
      refine hK _ _ ?_
      clear hK
      obtain ⟨w4, hw4⟩ : ∃ w4, w4 = wr.alloc (.cells z32 86) := ⟨_, rfl⟩
      rw [← hw4]
      have hq1 : w.heap.size + 1 < q := by rw [hq]; exact HST.out.a1.lt
      have hA0 : Arr w4 w.heap.size 86 (bv (List.replicate 32 0)) := by rw [hw4]; exact HST.out.a0.alloc _
      have hA1 : Arr w4 (w.heap.size + 1) 141 (wv st.list) := by rw [hw4]; exact HST.out.a1.alloc _
      have hA2 : Arr w4 q 86 (bv (outL st.list 0)) := by rw [hw4, hz32]; exact Arr.new_at _ _ _ _ hq
      have hB4 : Below w.heap.size w w4 := by rw [hw4]; exact HST.out.b.alloc HST.out.b.size _
      obtain ⟨ss, hss⟩ : ∃ ss, ss = (wv st.list).toArray := ⟨_, rfl⟩
      have hsz : (Try.prog.info? 141).map (·.size) = some ss.size := by rw [hss, stSize]; exact info88
      have hidx : ∀ i : Nat, i < 8 → ∀ w, (Instr.index 141 (.agg ss) (.int .i64 (i : Int))).run Try.prog w = .ok (.int .u32 (un32 (wd st.list i))) w := by
        intro i hi w
        rw [hss]; exact idx8 st i hi w
      have HA0 := Lib.hid hA0
      have HA1 := Lib.hid hA1
      have HA2 := Lib.hid hA2
      have HB4 := Lib.hid hB4
      have HQ := Lib.hid hq1
      have HX := Lib.hid hidx
      have HSZ := Lib.hid hsz
      have HSE := Lib.hid hss
      clear hA0 hA1 hA2 hB4 hidx hsz hw4 hz32 hq hq1 hss HST h1
      go_upto_region 8 with fail
      refine wp_region_lit ?_
      refine wpList_load_row rfl 141 (.tmp 3) rfl (w.heap.size + 1) rfl 141 ss (0, 0) _ (by rw [HSE.out]; exact HA1.out) Try.underlying141 rfl HSZ.out ?_
      refine Great.wpList_readTo rfl _ rfl (.int .i64 0) ?x2 ?_
      case x2 => kernel_rfl
      refine wpList_nil ?_
      rename_i hK
      refine hK _ _ ?_
      clear hK
      go_wp2_with fail
      go_loopg [26] 8 (fun k s26 wr => ∃ i : Nat, i ≤ 8 ∧ k = 8 - i ∧ s26 = .int .i64 (i : Int) ∧ Arr wr w.heap.size 86 (bv (List.replicate 32 0)) ∧ Arr wr q 86 (bv (outL st.list i)) ∧ Below w.heap.size w wr)
      case atStart => exact ⟨0, by omega, by omega, rfl, HA0.out, HA2.out, HB4.out⟩
      case round =>
        rename_i wo gk2 wr2
        obtain ⟨i, hi, hk2, rfl, ha0, ha2, hb⟩ := hrel
        clear HA0 HA1 HA2 HB4
        have HK2 := Lib.hid hk2
        have HA0 := Lib.hid ha0
        have HA2 := Lib.hid ha2
        have HB := Lib.hid hb
        clear hk2 ha0 ha2 hb
        by_cases hlt : i < 8
        · have hx := HX.out i hlt
          obtain ⟨x, hxe⟩ : ∃ x, x = wd st.list i := ⟨_, rfl⟩
          obtain ⟨k, hk⟩ : ∃ k : Nat, k = 4 * i := ⟨_, rfl⟩
          have HS := Lib.hid (outL_succ st i k hlt hk x hxe)
          rw [← hxe] at hx
          have hlen := outL_length st i hi
          obtain ⟨u0, c0⟩ : ∃ u, wr.cell? ⟨q, k, none⟩ = some u := ⟨_, HA2.out.byte (i := k) (by omega)⟩
          obtain ⟨u1, c1⟩ : ∃ u, wr.cell? ⟨q, k + 1, none⟩ = some u := ⟨_, HA2.out.byte (i := k + 1) (by omega)⟩
          obtain ⟨u2, c2⟩ : ∃ u, wr.cell? ⟨q, k + 2, none⟩ = some u := ⟨_, HA2.out.byte (i := k + 2) (by omega)⟩
          obtain ⟨u3, c3⟩ : ∃ u, wr.cell? ⟨q, k + 3, none⟩ = some u := ⟨_, HA2.out.byte (i := k + 3) (by omega)⟩
          have f0 := HA2.out.frozen k
          have f1 := HA2.out.frozen (k + 1)
          have f2 := HA2.out.frozen (k + 2)
          have f3 := HA2.out.frozen (k + 3)
          have hk4 : 4 * (i : Int) = (k : Int) := by omega
          have hb1 : (k : Int) ≤ 28 := by omega
          have hb2 : (0 : Int) ≤ (k : Int) := by omega
          have HI := Lib.hid hlt
          clear hxe hk hlen hlt hi
          go_wp2_with fail
          go_roundg (8 - (i + 1))
          case measure => have := HK2.out; have := HI.out; omega
          case rel =>
            have hq := HQ.out
            refine ⟨i + 1, HI.out, rfl, by go_num, ?_, ?_, ?_⟩
            · exact (((HA0.out.set_other _ (by simp; omega) _).set_other _ (by simp; omega) _).set_other _ (by simp; omega) _).set_other _ (by simp; omega) _
            · have h := (((HA2.out.set k (.int .u8 (un8 (b24 x)))).set (k + 1) (.int .u8 (un8 (b16 x)))).set (k + 2) (.int .u8 (un8 (b08 x)))).set (k + 3) (.int .u8 (un8 (b00 x)))
              rw [bv_set, bv_set, bv_set, bv_set, HS.out] at h
              exact h
            · exact (((HB.out.setCell (by simp; omega) _).setCell (by simp; omega) _).setCell (by simp; omega) _).setCell (by simp; omega) _
        · obtain rfl : i = 8 := by omega
          obtain ⟨cs, hcs⟩ : ∃ cs, cs = (bv (shaOf l)).toArray := ⟨_, rfl⟩
          have hcs2 : cs = (bv (outL st.list 8)).toArray := by rw [hcs, HSS.out, outL_done]
          have hsz8 : cs.size = 32 := by rw [hcs, List.size_toArray, bv_length, shaOf_length]
          have hcz : (Try.prog.info? 86).map (·.size) = some cs.size := by rw [hsz8]; exact info72
          have HCS := Lib.hid hcs
          have HCS2 := Lib.hid hcs2
          have HS8 := Lib.hid hsz8
          have HCZ := Lib.hid hcz
          clear hcs hcs2 hsz8 hcz hlt hi
          go_upto_region 13 with fail
          refine wp_region_lit ?_
          refine wpList_load_row rfl 86 (.tmp 6) rfl q rfl 86 cs (0, 0) _ (by rw [HCS2.out]; exact HA2.out) Try.underlying86 rfl HCZ.out ?_
          refine wpList_store_row rfl 86 (.tmp 2) (.tmp 57) rfl w.heap.size cs rfl rfl 86 (bv (List.replicate 32 0)).toArray HA0.out HCZ.out (by rw [HS8.out]; rfl) (by rw [HCS.out]; exact all_oneCell_toArray (bv_one _)) ?_
          refine wpList_nil ?_
          rename_i hK
          refine hK _ _ ?_
          apply wp_ret
          refine bodyPost_ret (v := .agg cs) ?_ rfl ?_
          case refine_2 => exact ⟨by rw [HCS.out], below_setRow HB.out _ _ (Nat.le_refl _)⟩
          exact results_cell_row rfl _ _ w.heap.size 86 cs (0, 0) _ rfl (setRow_heap _ _ _ _ _ _ HA0.out) Try.underlying86 rfl HCZ.out

end
end Go.Proofs.Ytjakhemolecbnaa
end

/-
  The chain of links: what it is, and the walk of Next.
-/
section
set_option linter.unusedVariables false
set_option linter.unusedSimpArgs false
namespace Go.Proofs.Ytjakhemolecbnaa
open Go.RowKit

def hd0 : List UInt8 := List.replicate 32 0
/-- The head behind a record. -/
def nextOf (h s : List UInt8) : List UInt8 := shaOf (h ++ s)
theorem nextOf_length (h s : List UInt8) : (nextOf h s).length = 32 := shaOf_length _
def headOf (l : List (List UInt8)) : List UInt8 := l.foldl nextOf hd0
theorem head_length : ∀ (l : List (List UInt8)) (h : List UInt8), h.length = 32 → (l.foldl nextOf h).length = 32
  | [], _, hh => hh
  | s :: l, h, _ => head_length l (nextOf h s) (nextOf_length h s)
theorem headOf_length (l : List (List UInt8)) : (headOf l).length = 32 := head_length l hd0 (by simp [hd0])
theorem headOf_snoc (l : List (List UInt8)) (s : List UInt8) : headOf (l ++ [s]) = nextOf (headOf l) s := by simp [headOf, List.foldl_append]
/-- The chain of texts. -/
def mkOf (l : List (List UInt8)) : List (List UInt8 × List UInt8) := (List.range l.length).map fun i => (l.getD i [], headOf (l.take (i + 1)))
theorem mkOf_length (l : List (List UInt8)) : (mkOf l).length = l.length := by simp [mkOf]
theorem mkOf_get (l : List (List UInt8)) (i : Nat) (h : i < (mkOf l).length) (h' : i < l.length) : (mkOf l)[i] = (l[i], headOf (l.take (i + 1))) := by
  simp [mkOf, List.getD_eq_getElem?_getD, List.getElem?_eq_getElem h']
theorem mkOf_snoc (l : List (List UInt8)) (s : List UInt8) : mkOf (l ++ [s]) = mkOf l ++ [(s, nextOf (headOf l) s)] := by
  unfold mkOf
  rw [List.length_append, List.length_singleton, List.range_succ, List.map_append]
  congr 1
  · apply List.map_congr_left
    intro j hj
    have := List.mem_range.1 hj
    simp only [List.getD_eq_getElem?_getD]
    rw [List.getElem?_append_left (by omega), List.take_append_of_le_length (by omega)]
  · rw [List.map_singleton, List.take_of_length_le (by simp), headOf_snoc]
    simp [List.getD_eq_getElem?_getD]
theorem mkOf_heads (l : List (List UInt8)) : ∀ x ∈ mkOf l, x.2.length = 32 := by
  intro x hx
  simp only [mkOf, List.mem_map] at hx
  obtain ⟨j, _, rfl⟩ := hx
  exact headOf_length _

/-- A link's cells. -/
def lk (x : List UInt8 × List UInt8) : List Value := .string (strB x.1) :: bv x.2
def lv (L : List (List UInt8 × List UInt8)) : List Value := L.flatMap lk
theorem lv_snoc (L : List (List UInt8 × List UInt8)) (x : List UInt8 × List UInt8) : lv (L ++ [x]) = lv L ++ lk x := by simp [lv]
theorem lk_length (x : List UInt8 × List UInt8) (h : x.2.length = 32) : (lk x).length = 33 := by simp [lk, bv_length, h]
theorem lv_length : ∀ (L : List (List UInt8 × List UInt8)), (∀ x ∈ L, x.2.length = 32) → (lv L).length = L.length * 33
  | [], _ => by simp [lv]
  | x :: L, h => by
    have h1 := lv_length L (fun y hy => h y (by simp [hy]))
    have h2 := lk_length x (h x (by simp))
    rw [lv, List.flatMap_cons, List.length_append, h2, List.length_cons]
    rw [lv] at h1
    omega
theorem lv_get : ∀ (L : List (List UInt8 × List UInt8)), (∀ x ∈ L, x.2.length = 32) → ∀ (i : Nat) (hi : i < L.length) (j : Nat), j < 33 → (lv L)[i * 33 + j]? = (lk L[i])[j]?
  | [], _, i, hi, _, _ => absurd hi (by simp)
  | x :: L, h, 0, _, j, hj => by
    have h2 := lk_length x (h x (by simp))
    rw [lv, List.flatMap_cons, List.getElem?_append_left (by omega)]
    simp
  | x :: L, h, i + 1, hi, j, hj => by
    have h2 := lk_length x (h x (by simp))
    have h1 := lv_get L (fun y hy => h y (by simp [hy])) i (by simpa using hi) j hj
    rw [lv, List.flatMap_cons, List.getElem?_append_right (by omega), h2, show (i + 1) * 33 + j - 33 = i * 33 + j by omega]
    exact h1
theorem lk_one (x : List UInt8 × List UInt8) : ∀ u ∈ lk x, u.oneCell' = true := by
  intro u hu
  rcases List.mem_cons.1 hu with rfl | h
  · rfl
  · exact bv_one _ u h
theorem lv_one (L : List (List UInt8 × List UInt8)) : ∀ u ∈ lv L, u.oneCell' = true := by
  intro u hu
  obtain ⟨x, _, h⟩ := List.mem_flatMap.1 hu
  exact lk_one x u h

section
variable {P : Program}
theorem strCells_bv (s : ByteArray) : Lib.strCells s = bv s.data.toList := rfl
/-- 'append(v, s...)': v full, its block of whatever kind. -/
theorem run_append_full_string (w : World) (t u ty e : TypeId) (i : TypeInfo) (ht : P.underlying t = some (.slice e)) (hu : P.underlying u = some .string) (hi : P.info? e = some i) (hz : i.zero = some (.int .u8 0))
    (hsize : i.size = 1) (hby : i.bytes = 1) (g n : Nat) (l : List UInt8) (hl : l.length = n) (hr : RB w (some ⟨g, 0, none⟩) l) (s : ByteArray) (hn : n ≤ 1000000) (hs : s.size ≤ 1000000) :
    ∃ A c w', (Builtin.append_ #[t, u] ty #[.slice (some ⟨g, 0, none⟩) n n, .string s]).run P w = .ok (.slice A (n + s.size) c) w' ∧ RB w' A (l ++ s.data.toList) ∧ Below w.heap.size w w' := by
  by_cases h0 : s.size = 0
  · have hd : s.data.toList = [] := List.eq_nil_of_length_eq_zero (by rw [data_length]; exact h0)
    refine ⟨some ⟨g, 0, none⟩, n, w, ?_, by rw [hd, List.append_nil]; exact hr, Below.refl _ _⟩
    have hf := Lib.run_firstCells_string (P := P) w 1 s
    rw [strCells_bv, hd] at hf
    simp only [h0] at hf
    simp [Builtin.append_, run_underlying ht, run_underlying hu, sizeOf, typeInfo, hi, hsize, Builtin.lenOf, h0, hf, storeCells, bv]
  · have holds : ∀ j v, (bv l)[j]? = some v → w.cell? ((⟨g, 0, none⟩ : Addr).add j) = some v := by
      intro j v hv
      have hlen := bv_length l
      have hj := (List.getElem?_eq_some_iff.1 hv).1
      obtain ⟨ad, e, hc⟩ := hr.cells (by omega)
      cases e
      exact hc j v hv
    have hgrow := Lib.run_append_grow_string (P := P) w t u ty e i (.int .u8 0) ht hu hi hz ⟨g, 0, none⟩ n n (bv l) (by rw [bv_length, hl, hsize, Nat.mul_one]) holds s (by omega) (by omega) (growslice_fits (by omega) (by rw [hby]; omega))
    refine ⟨_, _, _, hgrow, ?_, (Below.refl _ _).drew.alloc (Nat.le_refl _) _⟩
    rw [strCells_bv]
    have h1 := RC_newL w.drew ((bv l ++ bv s.data.toList) ++ (Builtin.zeroCells (Value.int .u8 0).cells (grownCap w (n + s.size) n e - (n + s.size))).toList) e
    have e1 : ((bv l ++ bv s.data.toList) ++ (Builtin.zeroCells (Value.int .u8 0).cells (grownCap w (n + s.size) n e - (n + s.size))).toList).toArray = (bv l).toArray ++ (bv s.data.toList).toArray ++ Builtin.zeroCells (Value.int .u8 0).cells (grownCap w (n + s.size) n e - (n + s.size)) := by
      apply Array.ext'
      simp
    rw [e1] at h1
    have h2 : RC (w.drew.alloc (.cells ((bv l).toArray ++ (bv s.data.toList).toArray ++ Builtin.zeroCells (Value.int .u8 0).cells (grownCap w (n + s.size) n e - (n + s.size))) e)) (some ⟨w.drew.heap.size, 0, none⟩) (bv (l ++ s.data.toList)) := by
      intro hp
      obtain ⟨ad, ea, hc⟩ := h1 (by rw [List.length_append]; rw [bv_append] at hp; omega)
      refine ⟨ad, ea, fun j v hj => hc j v ?_⟩
      rw [bv_append] at hj
      rw [List.getElem?_append_left (List.getElem?_eq_some_iff.1 hj).1]
      exact hj
    exact h2.bytes
theorem wpList_append_full_string {ops : Array Oper} {rest : List Oper} {o : Oper} {a : Act} {w : World} {Q : Exit → Act → World → Prop} (hgd : o.guard = none) (sl x : Operand) (t u : TypeId)
    (ho : o.op = .call { callee := .builtin .append, args := #[sl, x], argTypes := #[t, u] })
    (e : TypeId) (i : TypeInfo) (ht : P.underlying t = some (.slice e)) (hu : P.underlying u = some .string) (hi : P.info? e = some i) (hz : i.zero = some (.int .u8 0)) (hsize : i.size = 1) (hby : i.bytes = 1)
    (g n : Nat) (l : List UInt8) (hl : l.length = n) (hr : RB w (some ⟨g, 0, none⟩) l) (s : ByteArray) (hn : n ≤ 1000000) (hs : s.size ≤ 1000000)
    (hsl : a.eval sl = .slice (some ⟨g, 0, none⟩) n n) (hx : a.eval x = .string s)
    (h : ∀ A c w', RB w' A (l ++ s.data.toList) → Below w.heap.size w w' → wpList P ops Q rest (a.put o.dst (.slice A (n + s.size) c)) w') : wpList P ops Q (o :: rest) a w := by
  refine wpList_plain hgd fun K hK => ?_
  obtain ⟨A, c, w', hrun, h1, h2⟩ := run_append_full_string (P := P) w t u o.type e i ht hu hi hz hsize hby g n l hl hr s hn hs
  unfold Oper.wp execOp
  simp only [ho, resolve, invoke, builtin, Sem.run_bind, Sem.run_pure, Result.andThen_ok, List.map_toArray, List.map_cons, List.map_nil, hsl, hx, hrun]
  exact hK _ _ (h A c w' h1 h2)
end

set_option maxRecDepth 100000 in
set_option maxHeartbeats 4000000 in
theorem next_any (h : List UInt8) (s : ByteArray) (w : World) (hh : h.length = 32) (hs : s.size ≤ 1000000) :
    Calls Try.prog 85 #[.agg (bv h).toArray, .string s] w fun e w' => e = .returned (.agg (bv (nextOf h s.data.toList)).toArray) ∧ Below w.heap.size w w' := by
  obtain ⟨i8, hi8, hz8, hs8, hb8⟩ := info8i
  obtain ⟨hc, ehc⟩ : ∃ hc, hc = (bv h).toArray := ⟨_, rfl⟩
  obtain ⟨z32, hz32⟩ : ∃ z32, z32 = (bv (List.replicate 32 0)).toArray := ⟨_, rfl⟩
  rw [← ehc]
  have HI8 := Lib.hid hi8
  have HZ8 := Lib.hid hz8
  have HS8 := Lib.hid hs8
  have HB8 := Lib.hid hb8
  have HHL := Lib.hid hh
  have HSS := Lib.hid hs
  clear hi8 hz8 hs8 hb8 hh hs
  go_enter Try.func85, Try.ntmps85
  go_upto_region 0 with fail
  refine wp_region_lit ?_
  refine Great.wpList_boxTo rfl 86 (.tmp 0) rfl (some 2) rfl w.heap.size rfl hc rfl ?_
  obtain ⟨w1, hw1⟩ : ∃ w1, w1 = w.alloc (.cells hc 86) := ⟨_, rfl⟩
  rw [← hw1]
  have hs1 : w1.heap.size = w.heap.size + 1 := by rw [hw1]; simp
  have hA0 : Arr w1 w.heap.size 86 (bv h) := by rw [hw1, ehc]; exact Arr.new _ _ _
  have hB1 : Below w.heap.size w w1 := by rw [hw1]; exact (Below.refl _ _).alloc (Nat.le_refl _) _
  refine Great.wpList_allocTo rfl _ rfl (.pointer (some ⟨w.heap.size + 1, 0, none⟩)) (.cells z32 86) ?x1 ?_
  case x1 => rw [hz32, ← hs1]; kernel_rfl
  refine wpList_nil ?_
  rename_i hK
  refine hK _ _ ?_
  clear hK
  obtain ⟨w2, hw2⟩ : ∃ w2, w2 = w1.alloc (.cells z32 86) := ⟨_, rfl⟩
  rw [← hw2]
  have hA1 : Arr w2 (w.heap.size + 1) 86 (bv (List.replicate 32 0)) := by rw [hw2, hz32]; exact Arr.new_at _ _ _ _ hs1.symm
  have hA0' : Arr w2 w.heap.size 86 (bv h) := by rw [hw2]; exact hA0.alloc _
  have hB2 : Below w.heap.size w w2 := by rw [hw2]; exact hB1.alloc hB1.size _
  have hR2 : RB w2 (some ⟨w.heap.size, 0, none⟩) h := by
    refine RC.bytes (fun hp => ⟨_, rfl, fun j v hj => ?_⟩)
    rw [add_off, Nat.zero_add]
    exact hA0'.cell hj
  have HA1 := Lib.hid hA1
  have HB2 := Lib.hid hB2
  have HR2 := Lib.hid hR2
  clear hw2 hw1 hs1 hA0 hB1 hA1 hA0' hB2 hR2 hz32 ehc
  go_wp2_with (at_builtin; refine wpList_append_full_string rfl (.tmp 5) (.tmp 6) 25 9 rfl 5 i8 Try.underlying25 Try.underlying9 HI8.out HZ8.out HS8.out HB8.out w.heap.size 32 h HHL.out HR2.out s (by omega) HSS.out rfl rfl ?_)
  intro A c w3 hr3 hb3
  have HR3 := Lib.hid hr3
  have HB3 := Lib.hid (below_below HB2.out HB2.out.size hb3)
  have HA3 := Lib.hid (HA1.out.below hb3 HA1.out.lt)
  clear hr3 hb3
  go_wp2_with fail
  refine (sha_any A (32 + s.size) c (h ++ s.data.toList) w3 (by rw [List.length_append, HHL.out, data_length]) (by have := HSS.out; omega) HR3.out).mono ?_
  obtain ⟨cs, ecs⟩ : ∃ cs, cs = (bv (shaOf (h ++ s.data.toList))).toArray := ⟨_, rfl⟩
  have hz : cs.size = 32 := by rw [ecs, List.size_toArray, bv_length, shaOf_length]
  have hcz : (Try.prog.info? 86).map (·.size) = some cs.size := by rw [hz]; exact info72
  have ECS := Lib.hid ecs
  have HZZ := Lib.hid hz
  have HCZ := Lib.hid hcz
  rw [← ecs]
  clear ecs hz hcz
  rintro e w4 ⟨rfl, hb4⟩
  have HA4 := Lib.hid (HA3.out.below hb4 HA3.out.lt)
  have HB4 := Lib.hid (below_below HB3.out HB3.out.size hb4)
  clear hb4
  go_wp2_with (refine wpList_store_row rfl 86 (.tmp 4) (.tmp 8) rfl (w.heap.size + 1) cs rfl rfl 86 _ HA4.out HCZ.out (by rw [HZZ.out]; rfl) (by rw [ECS.out]; exact all_oneCell_toArray (bv_one _)) ?_)
  refine bodyPost_ret (v := .agg cs) ?_ rfl ?_
  case refine_2 => exact ⟨by rw [ECS.out]; rfl, below_setRow HB4.out _ _ (by omega)⟩
  exact results_cell_row rfl _ _ (w.heap.size + 1) 86 cs (0, 0) _ rfl (setRow_heap _ _ _ _ _ _ HA4.out) Try.underlying86 rfl HCZ.out

end Go.Proofs.Ytjakhemolecbnaa
end

/-
  Two heads, or two links, held against each other.
-/
section
set_option linter.unusedVariables false
set_option linter.unusedSimpArgs false
namespace Go.Proofs.Ytjakhemolecbnaa
open Go.RowKit

theorem mapM_some {α β : Type} (f : α → Option β) (g : α → β) : ∀ l : List α, (∀ a ∈ l, f a = some (g a)) → l.mapM f = some (l.map g)
  | [], _ => by simp
  | a :: l, h => by
    rw [List.mapM_cons, h a (by simp), mapM_some f g l (fun b hb => h b (by simp [hb]))]
    rfl
theorem flatten_singles {α β : Type} (f : α → β) : ∀ l : List α, (l.map fun a => [f a]).flatten = l.map f
  | [] => rfl
  | a :: l => by rw [List.map_cons, List.flatten_cons, flatten_singles f l]; rfl
def lit8 (b : UInt8) : Lit := .int .u8 (un8 b)
theorem lit8_wf (b : UInt8) : (lit8 b).wf = true := by
  have h : b.toNat < 256 := b.toNat_lt
  unfold lit8 un8
  simp [Lit.wf, IntKind.min, IntKind.max, IntKind.signed, IntKind.bits]
  omega
theorem lit8_inj {a b : UInt8} (h : lit8 a = lit8 b) : a = b := by
  unfold lit8 un8 at h
  simp only [Lit.int.injEq, true_and] at h
  exact UInt8.toNat_inj.1 (by omega)
theorem lits_inj : ∀ {x y : List UInt8}, x.map lit8 = y.map lit8 → x = y
  | [], [], _ => rfl
  | [], _ :: _, h => by simp at h
  | _ :: _, [], h => by simp at h
  | a :: x, b :: y, h => by
    simp only [List.map_cons, List.cons.injEq] at h
    rw [lit8_inj h.1, lits_inj h.2]
theorem range_bt (x : List UInt8) (hx : x.length = 32) : (List.range 32).map (bt x) = x := by
  apply List.ext_getElem
  · simp [hx]
  · intro i h1 h2
    simp [bt, List.getD_eq_getElem?_getD, List.getElem?_eq_getElem h2]

theorem cells28 : Try.prog.cellsOf 86 = 32 := by kernel_rfl
theorem cells8 : Try.prog.cellsOf 5 = 1 := by kernel_rfl
theorem keyLit8 (d : Nat) (b : UInt8) : Try.prog.keyLits (d + 1) 5 [.int .u8 (un8 b)] = some [lit8 b] := by
  have h := lit8_wf b
  unfold lit8 at h
  simp only [Program.keyLits, Try.underlying5]
  rw [if_pos ⟨trivial, h⟩]
  rfl
theorem keyLits32 (d : Nat) (x : List UInt8) (hx : x.length = 32) : Try.prog.keyLits (d + 2) 86 (bv x) = some (x.map lit8) := by
  have key : ∀ i ∈ List.range 32, Try.prog.keyLits (d + 1) 5 (((bv x).drop (i * Try.prog.cellsOf 5)).take (Try.prog.cellsOf 5)) = some [lit8 (bt x i)] := by
    intro i hi
    have hi' := List.mem_range.1 hi
    have hl := bv_length x
    rw [cells8, Nat.mul_one]
    have e : ((bv x).drop i).take 1 = [.int .u8 (un8 (bt x i))] := by
      rw [List.drop_eq_getElem_cons (by omega), List.take_succ_cons, List.take_zero]
      simp [bv, B8, bt, List.getD_eq_getElem?_getD, List.getElem?_eq_getElem (show i < x.length by omega)]
    rw [e]
    exact keyLit8 d _
  have h2 := mapM_some _ (fun i => [lit8 (bt x i)]) _ key
  unfold Program.keyLits
  simp only [Try.underlying86]
  rw [if_pos (by rw [bv_length, hx, cells28]), h2]
  simp only [Option.map_some]
  rw [flatten_singles (fun i => lit8 (bt x i))]
  have h3 : (List.range 32).map (fun i => lit8 (bt x i)) = ((List.range 32).map (bt x)).map lit8 := by rw [List.map_map]; rfl
  rw [h3, range_bt x hx]
theorem formed32 (x : List UInt8) (hx : x.length = 32) : (Value.agg (bv x).toArray).formed Try.prog 86 = true := by
  simp only [Value.formed, Try.underlying86, cells28, List.size_toArray, bv_length, hx]
  rfl
/-- Two heads. -/
theorem eq32 (x y : List UInt8) (hx : x.length = 32) (hy : y.length = 32) (w : World) : (Op.equalIn 10000 86 (.agg (bv x).toArray) (.agg (bv y).toArray)).run Try.prog w = .ok (decide (x = y)) w := by
  obtain ⟨r, hr, hiff⟩ := run_equalIn_deep (P := Try.prog) 9998 2 86 (by kernel_rfl) w 2 2 (.agg (bv x).toArray) (.agg (bv y).toArray) _ _ (formed32 x hx) (formed32 y hy) (keyLits32 0 x hx) (keyLits32 0 y hy)
  have e : r = decide (x = y) := by
    by_cases h : x = y
    · rw [decide_eq_true h]; exact hiff.2 (by rw [h])
    · rw [decide_eq_false h]
      cases r with
      | false => rfl
      | true => exact absurd (lits_inj (hiff.1 rfl)) h
  rw [← e]
  exact hr

theorem cellsLk : Try.prog.cellsOf 92 = 33 := by kernel_rfl
theorem cellsS : Try.prog.cellsOf 9 = 1 := by kernel_rfl
theorem keyLitS (d : Nat) (s : List UInt8) (hs : s.length ≤ 1000000) : Try.prog.keyLits (d + 1) 9 [.string (strB s)] = some [.string s] := by
  simp only [Program.keyLits, Try.underlying9]
  rw [if_pos (by rw [strB_size]; simp [maxLen]; omega), strB_toList]
theorem keyLitsLk (d : Nat) (s x : List UInt8) (hs : s.length ≤ 1000000) (hx : x.length = 32) : Try.prog.keyLits (d + 3) 92 (lk (s, x)) = some (.string s :: x.map lit8) := by
  unfold Program.keyLits
  simp only [Try.underlying92]
  rw [if_pos ⟨by rw [lk_length _ hx, cellsLk], by kernel_rfl⟩]
  simp only [List.mapM_cons, List.mapM_nil, cellsS, cells28]
  have e0 : ((lk (s, x)).drop 0).take 1 = [.string (strB s)] := rfl
  have e1 : ((lk (s, x)).drop 1).take 32 = bv x := by
    show (bv x).take 32 = bv x
    rw [List.take_of_length_le (by rw [bv_length, hx]; omega)]
  rw [e0, e1, keyLitS (d + 1) s hs, keyLits32 d x hx]
  simp
theorem formedLk (s x : List UInt8) (hx : x.length = 32) : (Value.agg (lk (s, x)).toArray).formed Try.prog 92 = true := by
  simp only [Value.formed, Try.underlying92, cellsLk, List.size_toArray, lk_length (s, x) hx]
  rfl
/-- Two links. -/
theorem eqLk (a b : List UInt8 × List UInt8) (ha : a.1.length ≤ 1000000) (hb : b.1.length ≤ 1000000) (hx : a.2.length = 32) (hy : b.2.length = 32) (w : World) :
    (Op.equalIn 10000 92 (.agg (lk a).toArray) (.agg (lk b).toArray)).run Try.prog w = .ok (decide (a = b)) w := by
  obtain ⟨s, x⟩ := a
  obtain ⟨t, y⟩ := b
  obtain ⟨r, hr, hiff⟩ := run_equalIn_deep (P := Try.prog) 9997 3 92 (by kernel_rfl) w 3 3 (.agg (lk (s, x)).toArray) (.agg (lk (t, y)).toArray) _ _ (formedLk s x hx) (formedLk t y hy) (keyLitsLk 0 s x ha hx) (keyLitsLk 0 t y hb hy)
  have e : r = decide ((s, x) = (t, y)) := by
    by_cases h : (s, x) = (t, y)
    · rw [decide_eq_true h]; exact hiff.2 (by cases h; rfl)
    · rw [decide_eq_false h]
      cases r with
      | false => rfl
      | true =>
        have h2 := hiff.1 rfl
        simp only [List.cons.injEq, Lit.string.injEq] at h2
        exact absurd (by rw [h2.1, lits_inj h2.2]) h
  rw [← e]
  exact hr

end Go.Proofs.Ytjakhemolecbnaa
end

/-
  The walk of Make, of the chain.
-/
section
set_option linter.unusedVariables false
set_option linter.unusedSimpArgs false
namespace Go.Proofs.Ytjakhemolecbnaa
open Go.RowKit

theorem infoLk : (Try.prog.info? 92).map (fun i => (i.zero, i.size, i.bytes)) = some (some (.agg (lk ([], hd0)).toArray), 33, 48) := by kernel_rfl
theorem info33 : (Try.prog.info? 92).map (·.size) = some 33 := by kernel_rfl
theorem built_link (s h : List UInt8) (hh : h.length = 32) : Try.prog.built 92 [(0, .string (strB s)), (1, .agg (bv h).toArray)] = some (lk (s, h)).toArray := by
  rw [← range_bt h hh]
  unfold lk
  simp only []
  generalize strB s = q
  generalize bt h = f
  kernel_rfl
theorem built_one (s h : List UInt8) (hh : h.length = 32) : Try.prog.builtSlice 92 1 [(0, .agg (lk (s, h)).toArray)] = some (lk (s, h)).toArray := by
  rw [← range_bt h hh]
  unfold lk
  simp only []
  generalize strB s = q
  generalize bt h = f
  kernel_rfl

end Go.Proofs.Ytjakhemolecbnaa
end

/-
  The walks of the small functions around a chain: few, Same, Texts, Check.
-/
section
set_option linter.unusedVariables false
set_option linter.unusedSimpArgs false
namespace Go.Proofs.Ytjakhemolecbnaa
open Go.RowKit

/-- The first texts, each cut at 100. -/
def fewOf (L : List (List UInt8)) (most : Nat) : List (List UInt8) := (L.take most).map (·.take 100)
theorem fewOf_length (L : List (List UInt8)) (most : Nat) : (fewOf L most).length = min most L.length := by simp [fewOf]
theorem fewOf_small (L : List (List UInt8)) (most : Nat) : ∀ x ∈ fewOf L most, x.length ≤ 100 := by
  intro x hx
  simp only [fewOf, List.mem_map] at hx
  obtain ⟨y, _, rfl⟩ := hx
  simp
  omega
theorem fewOf_succ (L : List (List UInt8)) (i : Nat) (h : i < L.length) : fewOf L (i + 1) = fewOf L i ++ [L[i].take 100] := by
  unfold fewOf
  rw [List.take_succ_eq_append_getElem h, List.map_append]
  rfl

theorem lk_range {w : World} {b o : Nat} {M : List (List UInt8 × List UInt8)} (hh : ∀ x ∈ M, x.2.length = 32) (hc : ∀ j u, (lv M)[j]? = some u → w.cell? ⟨b, o + j, none⟩ = some u) (i : Nat) (hi : i < M.length) : w.rangeAt b (o + i * 33) (lk M[i]) := by
  intro j v hj
  have h2 := lk_length M[i] (hh _ (List.getElem_mem hi))
  have hj' := (List.getElem?_eq_some_iff.1 hj).1
  rw [Nat.add_assoc]
  exact hc _ _ ((lv_get M hh i hi j (by omega)).trans hj)

end Go.Proofs.Ytjakhemolecbnaa
end
