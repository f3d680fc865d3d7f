/-
  The texts Spread of this proof in one (what is used of them): what each proves is said at its head. No conditions beyond those that each theorem says.
-/
import Derived.Test.YtjakhemolecbnaaNA

/-
  The walk of sum.spread.
-/
section
set_option linter.unusedVariables false
set_option linter.unusedSimpArgs false
namespace Go.Proofs.Ytjakhemolecbnaa
open Go.RowKit

/-- The array when i of its words are there. -/
def schedZ (b : List UInt8) (i : Nat) : List UInt32 := sched b i ++ List.replicate (64 - i) 0
theorem schedZ_length (b : List UInt8) (i : Nat) (h : i ≤ 64) : (schedZ b i).length = 64 := by simp [schedZ, sched_length]; omega
theorem schedZ_wd (b : List UInt8) (i k : Nat) (h : k < i) : wd (schedZ b i) k = wd (sched b i) k := by
  unfold wd schedZ
  simp only [List.getD_eq_getElem?_getD]
  rw [List.getElem?_append_left (by rw [sched_length]; exact h)]
theorem schedZ_succ (b : List UInt8) (i : Nat) (h : i < 64) (x : UInt32) (hx : sched b (i + 1) = sched b i ++ [x]) : schedZ b (i + 1) = (schedZ b i).set i x := by
  unfold schedZ
  rw [hx, List.set_append_right _ _ (by rw [sched_length]; exact Nat.le_refl _), sched_length, Nat.sub_self, show 64 - i = (64 - (i + 1)) + 1 by omega, List.replicate_succ]
  simp
theorem schedZ_done (b : List UInt8) : schedZ b 64 = sched b 64 := by simp [schedZ]
theorem sched_lo (b : List UInt8) (i : Nat) (h : i < 16) : sched b (i + 1) = sched b i ++ [be32 b (4 * i)] := by simp [sched, h]
theorem sched_hi (b : List UInt8) (i : Nat) (h : ¬ i < 16) : sched b (i + 1) = sched b i ++ [wd (sched b i) (i - 16) + sig0 (wd (sched b i) (i - 15)) + wd (sched b i) (i - 7) + sig1 (wd (sched b i) (i - 2))] := by simp [sched, h]
theorem wv_set (l : List UInt32) (i : Nat) (x : UInt32) : (wv l).set i (.int .u32 (un32 x)) = wv (l.set i x) := by simp [wv, List.map_set, W32]

theorem bt_get (l : List UInt8) (i : Nat) (h : i < l.length) : bt l i = l[i] := by simp [bt, List.getD_eq_getElem?_getD, List.getElem?_eq_getElem h]
theorem shl24 (x : UInt32) : un32 x * 16777216 % 4294967296 = un32 (shlW x 24) := (un32_shl x 24).symm
theorem shl16 (x : UInt32) : un32 x * 65536 % 4294967296 = un32 (shlW x 16) := (un32_shl x 16).symm
theorem shl8 (x : UInt32) : un32 x * 256 % 4294967296 = un32 (shlW x 8) := (un32_shl x 8).symm

theorem shr3 (x : UInt32) : un32 x / 8 = un32 (shrW x 3) := (un32_shr x 3).symm
theorem shr10 (x : UInt32) : un32 x / 1024 = un32 (shrW x 10) := (un32_shr x 10).symm
theorem add32 (x y : UInt32) : (un32 x + un32 y) % 4294967296 = un32 (x + y) := (un32_add x y).symm
section
attribute [local go_sem] un8_mod32 or32 shl24 shl16 shl8 xor32 shr3 shr10 add32
set_option maxRecDepth 100000 in
set_option maxHeartbeats 4000000 in
theorem spread_any (A : Option Addr) (c : Nat) (l : List UInt8) (w : World) (hl : l.length = 64) (hr : RB w A l) :
    Calls Try.prog 92 #[.slice A 64 c] w fun e w' => e = .returned (.agg (wv (sched l 64)).toArray) ∧ Below w.heap.size w w' := by
  have HR := Lib.hid hr
  have HL := Lib.hid hl
  clear hr hl
  go_enter Try.func92, Try.ntmps92
  go_wp2_with fail
  go_loopg [9] 64 (fun k s9 wr => ∃ i : Nat, i ≤ 64 ∧ k = 64 - i ∧ s9 = .int .i64 (i : Int) ∧ Arr wr w.heap.size 142 (wv (List.replicate 64 0)) ∧ Arr wr (w.heap.size + 1) 142 (wv (schedZ l i)) ∧ Below w.heap.size w wr)
  case atStart => exact ⟨0, by omega, by omega, rfl, (Arr.new w 142 (wv (List.replicate 64 0))).alloc _, by rw [show schedZ l 0 = List.replicate 64 0 from rfl]; exact Arr.new_at _ 142 (wv (List.replicate 64 0)) _ (by simp), ((Below.refl _ _).alloc (Nat.le_refl _) _).alloc (by simp) _⟩
  case round =>
    obtain ⟨i, hi, hk, rfl, ha0, ha1, hb⟩ := hrel
    have HK := Lib.hid hk
    have HI := Lib.hid hi
    have H0 := Lib.hid ha0
    have H1 := Lib.hid ha1
    have HB := Lib.hid hb
    clear hk ha0 ha1 hb
    by_cases hlt : i < 64
    · by_cases h16 : i < 16
      · have hlen := HL.out
        obtain ⟨b, o, rfl, hcb⟩ := HR.out.parts (by omega)
        obtain ⟨k, hk⟩ : ∃ k : Nat, k = 4 * i := ⟨_, rfl⟩
        have hcs : ∀ j, j < 64 → wr.cell? ⟨b, o + j, none⟩ = some (.int .u8 (un8 (bt l j))) := by
          intro j hj
          rw [bt_get l j (by omega)]
          exact cell_below HB.out (hcb j (by omega))
        have hc0 := hcs k (by omega)
        have hc1 := hcs (k + 1) (by omega)
        have hc2 := hcs (k + 2) (by omega)
        have hc3 := hcs (k + 3) (by omega)
        have hk4 : 4 * (i : Int) = (k : Int) := by omega
        have hb1 : (k : Int) ≤ 60 := by omega
        have hb2 : (i : Int) < 64 := by omega
        have hb3 : (0 : Int) ≤ (i : Int) := by omega
        have hb4 : (0 : Int) ≤ (k : Int) := by omega
        have hb5 : (i : Int) < 16 := by omega
        have hcw := H1.out.word (i := i) (by rw [schedZ_length _ _ hi]; exact hlt)
        have hfw := H1.out.frozen i
        have HK4 := Lib.hid hk
        clear hcs hcb hlen hk
        go_upto_region 6 with fail
        go_region
        all_goals
          go_wp2_with fail
          go_roundg (64 - (i + 1))
          case measure => have := HK.out; omega
          case rel =>
            refine ⟨i + 1, by omega, rfl, by go_num, H0.out.set_other _ (by simp) _, ?_, (HB.out.setCell (by simp) _).drew⟩
            have h2 := H1.out.set i (W32 (be32 l k))
            rw [show (wv (schedZ l i)).set i (W32 (be32 l k)) = wv (schedZ l (i + 1)) by
              rw [schedZ_succ l i hlt (be32 l k) (by rw [HK4.out]; exact sched_lo l i h16), ← wv_set]; rfl] at h2
            exact h2
      · obtain ⟨d, rfl⟩ : ∃ d, i = d + 16 := ⟨i - 16, by omega⟩
        have hlen : (schedZ l (d + 16)).length = 64 := schedZ_length _ _ hi
        have hw0 := H1.out.word (i := d) (by omega)
        have hw1 := H1.out.word (i := d + 1) (by omega)
        have hw9 := H1.out.word (i := d + 9) (by omega)
        have hw14 := H1.out.word (i := d + 14) (by omega)
        have hw16 := H1.out.word (i := d + 16) (by omega)
        rw [schedZ_wd _ _ _ (by omega)] at hw0 hw1 hw9 hw14
        have hfw := H1.out.frozen (d + 16)
        have HS := Lib.hid (sched_hi l (d + 16) h16)
        rw [show d + 16 - 16 = d by omega, show d + 16 - 15 = d + 1 by omega, show d + 16 - 7 = d + 9 by omega, show d + 16 - 2 = d + 14 by omega] at HS
        have hb1 : (d : Int) < 48 := by omega
        have hb2 : (0 : Int) ≤ (d : Int) := by omega
        generalize wd (sched l (d + 16)) d = x0 at *
        generalize wd (sched l (d + 16)) (d + 1) = x1 at *
        generalize wd (sched l (d + 16)) (d + 9) = x9 at *
        generalize wd (sched l (d + 16)) (d + 14) = x14 at *
        have HLT := Lib.hid hlt
        clear hlen hlt hi h16
        go_upto_region 7 with fail
        go_region
        all_goals
          have H0' := Lib.hid (Arr.drew H0.out)
          have H1' := Lib.hid (Arr.drew H1.out)
          have HB' := Lib.hid (Below.drew HB.out)
          have hw0' : wr.drew.cell? _ = _ := hw0
          have hw9' : wr.drew.cell? _ = _ := hw9
          have hw16' : wr.drew.cell? _ = _ := hw16
          have hfw' : wr.drew.frozen? _ = _ := hfw
          clear hw0 hw1 hw9 hw14 hw16 hfw H0 H1 HB
          generalize wr.drew = wd at *
          have HX0 := Lib.hid hw0'
          have HX9 := Lib.hid hw9'
          have HX16 := Lib.hid hw16'
          clear hw0' hw9' hw16'
          go_wp2_with fail
          refine (rot_7 _ _).mono ?_
          rintro e w1 ⟨rfl, rfl⟩
          go_wp2_with fail
          refine (rot_18 _ _).mono ?_
          rintro e w1 ⟨rfl, rfl⟩
          go_wp2_with fail
          refine (rot_17 _ _).mono ?_
          rintro e w1 ⟨rfl, rfl⟩
          go_wp2_with fail
          refine (rot_19 _ _).mono ?_
          rintro e w1 ⟨rfl, rfl⟩
          have hw0' := HX0.out
          have hw9' := HX9.out
          have hw16' := HX16.out
          go_upto_region 10 with fail
          go_region
          all_goals
            go_wp2_with fail
            go_roundg (64 - (d + 16 + 1))
            case measure => have := HK.out; have := HLT.out; omega
            case rel =>
              refine ⟨d + 16 + 1, HLT.out, rfl, rfl, H0'.out.set_other _ (by simp) _, ?_, (HB'.out.setCell (by simp) _).drew⟩
              have h2 := H1'.out.set (d + 16) (W32 (x0 + sig0 x1 + x9 + sig1 x14))
              rw [show (wv (schedZ l (d + 16))).set (d + 16) (W32 (x0 + sig0 x1 + x9 + sig1 x14)) = wv (schedZ l (d + 16 + 1)) by
                rw [schedZ_succ l (d + 16) HLT.out _ HS.out, ← wv_set]; rfl] at h2
              exact h2
    · obtain rfl : i = 64 := by omega
      obtain ⟨cs, hcs⟩ : ∃ cs, cs = (wv (sched l 64)).toArray := ⟨_, rfl⟩
      have hz : wr.heap[w.heap.size + 1]? = some (.cells cs 142) := by rw [hcs, ← schedZ_done]; exact H1.out
      have hsz : (Try.prog.info? 142).map (·.size) = some cs.size := by
        rw [hcs, List.size_toArray, wv_length, sched_length]; kernel_rfl
      have hs64 : (wv (List.replicate 64 0)).toArray.size = cs.size := by rw [hcs, List.size_toArray, List.size_toArray, wv_length, wv_length, sched_length]; rfl
      have hone : cs.all (·.oneCell') = true := by rw [hcs]; exact all_oneCell_toArray (wv_one _)
      have HZ := Lib.hid hz
      have HSZ := Lib.hid hsz
      have HS64 := Lib.hid hs64
      have HONE := Lib.hid hone
      have HCS := Lib.hid hcs
      clear hz hsz hs64 hone hcs hi hlt
      go_upto_region 12 with fail
      refine wp_region_lit ?_
      refine wpList_load_row rfl 142 (.tmp 3) rfl (w.heap.size + 1) rfl 142 cs (0, 0) _ HZ.out Try.underlying142 rfl HSZ.out ?_
      refine wpList_store_row rfl 142 (.tmp 2) (.tmp 89) rfl w.heap.size cs rfl rfl 142 (wv (List.replicate 64 0)).toArray H0.out HSZ.out HS64.out HONE.out ?_
      refine wpList_nil ?_
      rename_i hK
      refine hK _ _ ?_
      apply wp_ret
      refine bodyPost_ret (v := .agg cs) ?_ rfl ?_
      case refine_2 => exact ⟨by rw [HCS.out], below_setRow HB.out _ _ (Nat.le_refl _)⟩
      exact results_cell_row rfl _ _ w.heap.size 142 cs (0, 0) _ rfl (setRow_heap _ _ _ _ _ _ H0.out) Try.underlying142 rfl HSZ.out

end
end Go.Proofs.Ytjakhemolecbnaa
end
