/-
  The walk of sum.Sha.
-/
import Derived.Test.YthlbmjjodjepjaaRounds
import Derived.Test.YthlbmjjodjepjaaPadded
set_option linter.unusedVariables false
set_option linter.unusedSimpArgs false
namespace Go.Proofs.Ythlbmjjodjepjaa
open Go.RowKit

theorem info72 : (Try.prog.info? 28).map (·.size) = some 32 := by kernel_rfl
theorem own_sub {w : World} {base g n c : Nat} {e : TypeId} {l : List UInt8} (h : w.ownsRow base e 1 (.slice (some ⟨g, 0, none⟩) n c) n (bv l)) (k m : Nat) (hk : k + m ≤ l.length) : RB w (some ⟨g, k, none⟩) ((l.drop k).take m) := by
  intro h0
  refine ⟨_, rfl, fun j hj => ?_⟩
  have hj' : k + j < l.length := by simp at hj; omega
  rw [add_off, own_byte h (k + j) hj']
  simp

set_option maxRecDepth 100000 in
theorem idx8 (st : St) (i : Nat) (hi : i < 8) (w : World) : (Instr.index 115 (.agg (wv st.list).toArray) (.int .i64 (i : Int))).run Try.prog w = .ok (.int .u32 (un32 (wd st.list i))) w := by
  have h : i = 0 ∨ i = 1 ∨ i = 2 ∨ i = 3 ∨ i = 4 ∨ i = 5 ∨ i = 6 ∨ i = 7 := by omega
  clear hi
  rcases h with rfl | rfl | rfl | rfl | rfl | rfl | rfl | rfl <;> rfl
def b24 (x : UInt32) : UInt8 := UInt8.ofNat (x.toNat / 2 ^ 24)
def b16 (x : UInt32) : UInt8 := UInt8.ofNat (x.toNat / 2 ^ 16)
def b08 (x : UInt32) : UInt8 := UInt8.ofNat (x.toNat / 2 ^ 8)
def b00 (x : UInt32) : UInt8 := UInt8.ofNat x.toNat
theorem be4_eq (x : UInt32) : be4 x = [b24 x, b16 x, b08 x, b00 x] := rfl
theorem un8_ofNat (n : Nat) : un8 (UInt8.ofNat n) = ((n % 256 : Nat) : Int) := by
  unfold un8
  rw [show ∀ m : Nat, (UInt8.ofNat m).toNat = m % 256 from fun m => UInt8.toNat_ofNat']
theorem cut24 (x : UInt32) : un32 x / 16777216 % 256 = un8 (b24 x) := by unfold b24; rw [un8_ofNat]; unfold un32; omega
theorem cut16 (x : UInt32) : un32 x / 65536 % 256 = un8 (b16 x) := by unfold b16; rw [un8_ofNat]; unfold un32; omega
theorem cut08 (x : UInt32) : un32 x / 256 % 256 = un8 (b08 x) := by unfold b08; rw [un8_ofNat]; unfold un32; omega
theorem cut00 (x : UInt32) : un32 x % 256 = un8 (b00 x) := by unfold b00; rw [un8_ofNat]; unfold un32; omega
/-- What is written when i words are. -/
def outL (l : List UInt32) (i : Nat) : List UInt8 := (l.take i).flatMap be4 ++ List.replicate (32 - 4 * i) 0
theorem outL_length (st : St) (i : Nat) (h : i ≤ 8) : (outL st.list i).length = 32 := by
  have h : i = 0 ∨ i = 1 ∨ i = 2 ∨ i = 3 ∨ i = 4 ∨ i = 5 ∨ i = 6 ∨ i = 7 ∨ i = 8 := by omega
  rcases h with rfl | rfl | rfl | rfl | rfl | rfl | rfl | rfl | rfl <;> rfl
theorem outL_done (st : St) : outL st.list 8 = st.list.flatMap be4 := by simp [outL, St.list]
theorem outL_succ (st : St) (i k : Nat) (h : i < 8) (hk : k = 4 * i) (x : UInt32) (hx : x = wd st.list i) : ((((outL st.list i).set k (b24 x)).set (k + 1) (b16 x)).set (k + 2) (b08 x)).set (k + 3) (b00 x) = outL st.list (i + 1) := by
  subst hk hx
  have h : i = 0 ∨ i = 1 ∨ i = 2 ∨ i = 3 ∨ i = 4 ∨ i = 5 ∨ i = 6 ∨ i = 7 := by omega
  rcases h with rfl | rfl | rfl | rfl | rfl | rfl | rfl | rfl <;> rfl
theorem bv_set (l : List UInt8) (i : Nat) (x : UInt8) : (bv l).set i (.int .u8 (un8 x)) = bv (l.set i x) := by simp [bv, List.map_set, B8]

/-- The memory of Sha's first loop. -/
structure HSt (w wr : World) (v : Value) (p : List UInt8) (s : St) : Prop where
  a0 : Arr wr w.heap.size 28 (bv (List.replicate 32 0))
  a1 : Arr wr (w.heap.size + 1) 115 (wv s.list)
  own : wr.ownsRow (w.heap.size + 2) 5 1 v p.length (bv p)
  b : Below w.heap.size w wr

theorem HSt.below {w wr wr' : World} {v : Value} {p : List UInt8} {s : St} (h : HSt w wr v p s) (hb : Below wr.heap.size wr wr') : HSt w wr' v p s :=
  ⟨h.a0.below hb h.a0.lt, h.a1.below hb h.a1.lt, own_below h.own hb, below_below h.b h.b.size hb⟩
theorem HSt.turn {w wr wr' : World} {v : Value} {p : List UInt8} {s s' : St} (h : HSt w wr v p s) (hu : Upd (fun k => k = w.heap.size + 1) wr wr') (ha : Arr wr' (w.heap.size + 1) 115 (wv s'.list)) : HSt w wr' v p s' :=
  ⟨h.a0.upd hu (by omega), ha, own_upd h.own hu (fun k hk => by have := (World.ownsRow.lt h.own k hk).1; omega), below_upd h.b h.b.size hu (fun k hk => by omega)⟩

section
attribute [local go_sem] cut24 cut16 cut08 cut00
set_option maxRecDepth 100000 in
set_option maxHeartbeats 4000000 in
theorem sha_any (A : Option Addr) (n c : Nat) (l : List UInt8) (w : World) (hl : l.length = n) (hn : n ≤ 100000000) (hr : RB w A l) :
    Calls Try.prog 54 #[.slice A n c] w fun e w' => e = .returned (.agg (bv (shaOf l)).toArray) ∧ Below w.heap.size w w' := by
  subst hl
  have HR := Lib.hid hr
  clear hr
  go_enter Try.func54, Try.ntmps54
  obtain ⟨z32, hz32⟩ : ∃ z32, z32 = (bv (List.replicate 32 0)).toArray := ⟨_, rfl⟩
  obtain ⟨z8, hz8⟩ : ∃ z8, z8 = (wv (List.replicate 8 0)).toArray := ⟨_, rfl⟩
  obtain ⟨s8, hs8⟩ : ∃ s8, s8 = (wv h0.list).toArray := ⟨_, rfl⟩
  have hkz : (Try.prog.info? 115).map (·.size) = some s8.size := by rw [hs8, stSize]; exact info88
  go_upto_region 0 with fail
  refine wp_region_lit ?_
  refine Great.wpList_allocTo rfl _ rfl (.pointer (some ⟨w.heap.size, 0, none⟩)) (.cells z32 28) ?x1 ?_
  case x1 => rw [hz32]; kernel_rfl
  refine wpList_nil ?_
  rename_i hK
  refine hK _ _ ?_
  clear hK
  obtain ⟨w1, hw1⟩ : ∃ w1, w1 = w.alloc (.cells z32 28) := ⟨_, rfl⟩
  rw [← hw1]
  have hs1 : w1.heap.size = w.heap.size + 1 := by rw [hw1]; simp
  have hA0 : Arr w1 w.heap.size 28 (bv (List.replicate 32 0)) := by rw [hw1, hz32]; exact Arr.new _ _ _
  have hB1 : Below w.heap.size w w1 := by rw [hw1]; exact (Below.refl _ _).alloc (Nat.le_refl _) _
  clear hw1 hz32
  have HA0 := Lib.hid hA0
  have HB1 := Lib.hid hB1
  have HS1 := Lib.hid hs1
  have HKZ := Lib.hid hkz
  clear hA0 hB1 hs1 hkz
  go_upto_region 1 with fail
  refine wp_region_lit ?_
  refine Great.wpList_readTo rfl _ rfl (.agg s8) ?x2 ?_
  case x2 => rw [hs8]; kernel_rfl
  refine Great.wpList_allocTo rfl _ rfl (.pointer (some ⟨w.heap.size + 1, 0, none⟩)) (.cells z8 115) ?x3 ?_
  case x3 => rw [hz8, ← HS1.out]; kernel_rfl
  refine wpList_store_row rfl 115 (.tmp 3) (.tmp 9) rfl (w.heap.size + 1) s8 rfl rfl 115 z8 (by rw [hz8]; exact Arr.new_at _ _ _ _ HS1.out.symm) HKZ.out (by rw [hz8, hs8]; rfl) (by rw [hs8]; exact all_oneCell_toArray (wv_one _)) ?_
  refine wpList_nil ?_
  rename_i hK
  refine hK _ _ ?_
  clear hK
  obtain ⟨w2, hw2⟩ : ∃ w2, w2 = (w1.alloc (.cells z8 115)).setRow (w.heap.size + 1) s8 := ⟨_, rfl⟩
  rw [← hw2]
  have hs1 := HS1.out
  have hs2 : w2.heap.size = w.heap.size + 2 := by rw [hw2]; simp [hs1]
  have hA0 : Arr w2 w.heap.size 28 (bv (List.replicate 32 0)) := by rw [hw2]; exact (HA0.out.alloc _).setRow_other _ _ (by omega)
  have hA1 : Arr w2 (w.heap.size + 1) 115 (wv h0.list) := by rw [hw2, hs8, hz8]; exact Arr.setRow (Arr.new_at _ _ (wv (List.replicate 8 0)) _ hs1.symm) _
  have hB2 : Below w.heap.size w w2 := by rw [hw2]; exact below_setRow (HB1.out.alloc HB1.out.size _) _ _ (by omega)
  clear hw2 hz8 hs8 HA0 HB1 HS1 HKZ hs1
  have HA0 := Lib.hid hA0
  have HA1 := Lib.hid hA1
  have HB2 := Lib.hid hB2
  have HS2 := Lib.hid hs2
  clear hA0 hA1 hB2 hs2
  go_wp2_with fail
  refine (padded_any A l.length c l w2 rfl hn (HR.out.below HB2.out)).mono ?_
  rintro e w3 ⟨v, rfl, hown, hb3⟩
  have hs2 := HS2.out
  have hst : HSt w w3 v (padOf l) h0 := ⟨HA0.out.below hb3 (by omega), HA1.out.below hb3 (by omega), by rw [← hs2]; exact hown, below_below HB2.out HB2.out.size hb3⟩
  have HST := Lib.hid hst
  have HN := Lib.hid (padOf_length l)
  have HM := Lib.hid (padOf_mod l)
  clear hst hown hb3 hs2 HA0 HA1 HB2 HS2
  obtain ⟨p, hp⟩ : ∃ p, p = padOf l := ⟨_, rfl⟩
  rw [← hp] at HST HN HM
  have HP := Lib.hid hp
  clear hp
  obtain ⟨g, cc, rfl, hbg, hcc⟩ := own_form HST.out.own (by have := HN.out; omega)
  clear hbg
  have hlen : p.length ≤ 100000100 := by have := HN.out; have := padZ_lt l.length; omega
  go_wp2_with fail
  obtain ⟨N, hN⟩ : ∃ N, p.length = 64 * N := ⟨p.length / 64, by have := HM.out; omega⟩
  have HNN := Lib.hid hN
  clear hN
  go_loopg [5] N (fun k s5 wr => ∃ i m : Nat, i ≤ N ∧ k = N - i ∧ m = 64 * i ∧ s5 = .int .i64 (m : Int) ∧ HSt w wr (.slice (some ⟨g, 0, none⟩) p.length cc) p (stAt p i))
  case atStart => exact ⟨0, 0, by omega, by omega, rfl, rfl, HST.out⟩
  case round =>
    obtain ⟨i, m, hi, hk, hm, rfl, hst⟩ := hrel
    clear HST
    have HST := Lib.hid hst
    have HK := Lib.hid hk
    have hN := HNN.out
    by_cases hlt : i < N
    · have h1 : (m : Int) < (p.length : Int) := by omega
      have h2 : (m : Int) + 64 ≤ (cc : Int) := by omega
      have h3 : (0 : Int) ≤ (m : Int) := by omega
      have h4 : ¬ cc = m := by omega
      have h5 : (m : Int) + 64 ≤ (p.length : Int) := by omega
      have HI := Lib.hid hlt
      have HMM := Lib.hid hm
      clear hst hk hN hlt hm hi
      go_wp2_with fail
      refine (spread_any _ _ ((p.drop m).take 64) wr (by simp; omega) (own_sub HST.out.own m 64 (by omega))).mono ?_
      rintro e w4 ⟨rfl, hb4⟩
      have HST4 := Lib.hid (HST.out.below hb4)
      have HCO := Lib.hid (show compress (stAt p i) ((p.drop m).take 64) = stAt p (i + 1) by rw [HMM.out]; rfl)
      unfold compress at HCO
      clear hb4 HST
      obtain ⟨ws, hws⟩ : ∃ ws, ws = sched ((p.drop m).take 64) 64 := ⟨_, rfl⟩
      rw [← hws] at HCO ⊢
      have hwl : ws.length = 64 := by rw [hws, sched_length]
      have HWL := Lib.hid hwl
      clear hws hwl
      go_wp2_with fail
      refine (rounds_any (w.heap.size + 1) (stAt p i) ws w4 HWL.out HST4.out.a1).mono ?_
      rintro e w5 ⟨rfl, ha5, hu5⟩
      rw [HCO.out] at ha5
      have HST5 := Lib.hid (HST4.out.turn hu5 ha5)
      clear ha5 hu5 HST4
      go_wp2_with fail
      go_roundg (N - (i + 1))
      case measure => have := HK.out; have := HI.out; omega
      case rel => exact ⟨i + 1, m + 64, HI.out, rfl, by have := HMM.out; omega, by go_num, HST5.out⟩
    · obtain rfl : i = N := by omega
      have hS : shaOf l = (stAt p i).list.flatMap be4 := by rw [shaOf, ← HP.out, hN, Nat.mul_div_cancel_left _ (by omega)]
      have HSS := Lib.hid hS
      clear hS
      generalize stAt p i = st at *
      have h1 : (m : Int) = (p.length : Int) := by omega
      clear hst hk hN hlt hi hm
      go_upto_region 7 with fail
      obtain ⟨z32, hz32⟩ : ∃ z32, z32 = (bv (List.replicate 32 0)).toArray := ⟨_, rfl⟩
      obtain ⟨q, hq⟩ : ∃ q, q = wr.heap.size := ⟨_, rfl⟩
      refine wp_region_lit ?_
      refine Great.wpList_allocTo rfl _ rfl (.pointer (some ⟨q, 0, none⟩)) (.cells z32 28) ?x1 ?_
      case x1 => rw [hz32, hq]; kernel_rfl
      refine wpList_nil ?_
      rename_i hK
      refine hK _ _ ?_
      clear hK
      obtain ⟨w4, hw4⟩ : ∃ w4, w4 = wr.alloc (.cells z32 28) := ⟨_, rfl⟩
      rw [← hw4]
      have hq1 : w.heap.size + 1 < q := by rw [hq]; exact HST.out.a1.lt
      have hA0 : Arr w4 w.heap.size 28 (bv (List.replicate 32 0)) := by rw [hw4]; exact HST.out.a0.alloc _
      have hA1 : Arr w4 (w.heap.size + 1) 115 (wv st.list) := by rw [hw4]; exact HST.out.a1.alloc _
      have hA2 : Arr w4 q 28 (bv (outL st.list 0)) := by rw [hw4, hz32]; exact Arr.new_at _ _ _ _ hq
      have hB4 : Below w.heap.size w w4 := by rw [hw4]; exact HST.out.b.alloc HST.out.b.size _
      obtain ⟨ss, hss⟩ : ∃ ss, ss = (wv st.list).toArray := ⟨_, rfl⟩
      have hsz : (Try.prog.info? 115).map (·.size) = some ss.size := by rw [hss, stSize]; exact info88
      have hidx : ∀ i : Nat, i < 8 → ∀ w, (Instr.index 115 (.agg ss) (.int .i64 (i : Int))).run Try.prog w = .ok (.int .u32 (un32 (wd st.list i))) w := by
        intro i hi w
        rw [hss]; exact idx8 st i hi w
      have HA0 := Lib.hid hA0
      have HA1 := Lib.hid hA1
      have HA2 := Lib.hid hA2
      have HB4 := Lib.hid hB4
      have HQ := Lib.hid hq1
      have HX := Lib.hid hidx
      have HSZ := Lib.hid hsz
      have HSE := Lib.hid hss
      clear hA0 hA1 hA2 hB4 hidx hsz hw4 hz32 hq hq1 hss HST h1
      go_upto_region 8 with fail
      refine wp_region_lit ?_
      refine wpList_load_row rfl 115 (.tmp 3) rfl (w.heap.size + 1) rfl 115 ss (0, 0) _ (by rw [HSE.out]; exact HA1.out) Try.underlying115 rfl HSZ.out ?_
      refine Great.wpList_readTo rfl _ rfl (.int .i64 0) ?x2 ?_
      case x2 => kernel_rfl
      refine wpList_nil ?_
      rename_i hK
      refine hK _ _ ?_
      clear hK
      go_wp2_with fail
      go_loopg [26] 8 (fun k s26 wr => ∃ i : Nat, i ≤ 8 ∧ k = 8 - i ∧ s26 = .int .i64 (i : Int) ∧ Arr wr w.heap.size 28 (bv (List.replicate 32 0)) ∧ Arr wr q 28 (bv (outL st.list i)) ∧ Below w.heap.size w wr)
      case atStart => exact ⟨0, by omega, by omega, rfl, HA0.out, HA2.out, HB4.out⟩
      case round =>
        rename_i wo gk2 wr2
        obtain ⟨i, hi, hk2, rfl, ha0, ha2, hb⟩ := hrel
        clear HA0 HA1 HA2 HB4
        have HK2 := Lib.hid hk2
        have HA0 := Lib.hid ha0
        have HA2 := Lib.hid ha2
        have HB := Lib.hid hb
        clear hk2 ha0 ha2 hb
        by_cases hlt : i < 8
        · have hx := HX.out i hlt
          obtain ⟨x, hxe⟩ : ∃ x, x = wd st.list i := ⟨_, rfl⟩
          obtain ⟨k, hk⟩ : ∃ k : Nat, k = 4 * i := ⟨_, rfl⟩
          have HS := Lib.hid (outL_succ st i k hlt hk x hxe)
          rw [← hxe] at hx
          have hlen := outL_length st i hi
          obtain ⟨u0, c0⟩ : ∃ u, wr.cell? ⟨q, k, none⟩ = some u := ⟨_, HA2.out.byte (i := k) (by omega)⟩
          obtain ⟨u1, c1⟩ : ∃ u, wr.cell? ⟨q, k + 1, none⟩ = some u := ⟨_, HA2.out.byte (i := k + 1) (by omega)⟩
          obtain ⟨u2, c2⟩ : ∃ u, wr.cell? ⟨q, k + 2, none⟩ = some u := ⟨_, HA2.out.byte (i := k + 2) (by omega)⟩
          obtain ⟨u3, c3⟩ : ∃ u, wr.cell? ⟨q, k + 3, none⟩ = some u := ⟨_, HA2.out.byte (i := k + 3) (by omega)⟩
          have f0 := HA2.out.frozen k
          have f1 := HA2.out.frozen (k + 1)
          have f2 := HA2.out.frozen (k + 2)
          have f3 := HA2.out.frozen (k + 3)
          have hk4 : 4 * (i : Int) = (k : Int) := by omega
          have hb1 : (k : Int) ≤ 28 := by omega
          have hb2 : (0 : Int) ≤ (k : Int) := by omega
          have HI := Lib.hid hlt
          clear hxe hk hlen hlt hi
          go_wp2_with fail
          go_roundg (8 - (i + 1))
          case measure => have := HK2.out; have := HI.out; omega
          case rel =>
            have hq := HQ.out
            refine ⟨i + 1, HI.out, rfl, by go_num, ?_, ?_, ?_⟩
            · exact (((HA0.out.set_other _ (by simp; omega) _).set_other _ (by simp; omega) _).set_other _ (by simp; omega) _).set_other _ (by simp; omega) _
            · have h := (((HA2.out.set k (.int .u8 (un8 (b24 x)))).set (k + 1) (.int .u8 (un8 (b16 x)))).set (k + 2) (.int .u8 (un8 (b08 x)))).set (k + 3) (.int .u8 (un8 (b00 x)))
              rw [bv_set, bv_set, bv_set, bv_set, HS.out] at h
              exact h
            · exact (((HB.out.setCell (by simp; omega) _).setCell (by simp; omega) _).setCell (by simp; omega) _).setCell (by simp; omega) _
        · obtain rfl : i = 8 := by omega
          obtain ⟨cs, hcs⟩ : ∃ cs, cs = (bv (shaOf l)).toArray := ⟨_, rfl⟩
          have hcs2 : cs = (bv (outL st.list 8)).toArray := by rw [hcs, HSS.out, outL_done]
          have hsz8 : cs.size = 32 := by rw [hcs, List.size_toArray, bv_length, shaOf_length]
          have hcz : (Try.prog.info? 28).map (·.size) = some cs.size := by rw [hsz8]; exact info72
          have HCS := Lib.hid hcs
          have HCS2 := Lib.hid hcs2
          have HS8 := Lib.hid hsz8
          have HCZ := Lib.hid hcz
          clear hcs hcs2 hsz8 hcz hlt hi
          go_upto_region 13 with fail
          refine wp_region_lit ?_
          refine wpList_load_row rfl 28 (.tmp 6) rfl q rfl 28 cs (0, 0) _ (by rw [HCS2.out]; exact HA2.out) Try.underlying28 rfl HCZ.out ?_
          refine wpList_store_row rfl 28 (.tmp 2) (.tmp 57) rfl w.heap.size cs rfl rfl 28 (bv (List.replicate 32 0)).toArray HA0.out HCZ.out (by rw [HS8.out]; rfl) (by rw [HCS.out]; exact all_oneCell_toArray (bv_one _)) ?_
          refine wpList_nil ?_
          rename_i hK
          refine hK _ _ ?_
          apply wp_ret
          refine bodyPost_ret (v := .agg cs) ?_ rfl ?_
          case refine_2 => exact ⟨by rw [HCS.out], below_setRow HB.out _ _ (Nat.le_refl _)⟩
          exact results_cell_row rfl _ _ w.heap.size 28 cs (0, 0) _ rfl (setRow_heap _ _ _ _ _ _ HA0.out) Try.underlying28 rfl HCZ.out

end
end Go.Proofs.Ythlbmjjodjepjaa
