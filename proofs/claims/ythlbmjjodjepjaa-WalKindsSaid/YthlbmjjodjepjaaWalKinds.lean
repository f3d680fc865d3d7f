/-
  The walk of the law WalKinds.
-/
import Derived.Test.YthlbmjjodjepjaaWalFrames
import Derived.Test.YthlbmjjodjepjaaZeros
set_option linter.unusedVariables false
set_option linter.unusedSimpArgs false
namespace Go.Proofs.Ythlbmjjodjepjaa
open Go.RowKit

theorem xor_any32 (a b : Int) : ∃ C : UInt32, bits .xor .u32 a b = un32 C := by
  refine ⟨UInt32.ofNat (bits .xor .u32 a b).toNat, ?_⟩
  have h : bits .xor .u32 a b = IntKind.u32.wrap ((BitVec.ofInt 32 a ^^^ BitVec.ofInt 32 b).toNat : Int) := rfl
  have h2 := (BitVec.ofInt 32 a ^^^ BitVec.ofInt 32 b).isLt
  rw [h, IntKind.wrap_u32]
  unfold un32
  rw [UInt32.toNat_ofNat']
  omega
theorem wrap8_any (X : Int) : ∃ y : UInt8, IntKind.u8.wrap X = un8 y := by
  refine ⟨UInt8.ofNat (X % 256).toNat, ?_⟩
  rw [IntKind.wrap_u8]
  unfold un8
  rw [show ∀ n : Nat, (UInt8.ofNat n).toNat = n % 256 from fun n => UInt8.toNat_ofNat']
  omega

set_option maxRecDepth 100000 in
set_option maxHeartbeats 16000000 in
theorem walKinds_any (kind : UInt8) (rec ahead : ByteArray) (more near : Int) (w : World) (hm0 : -9223372036854775808 ≤ more) (hm1 : more ≤ 9223372036854775807) (hn0 : -9223372036854775808 ≤ near) (hn1 : near ≤ 9223372036854775807) :
    Calls Try.prog 8 #[.int .u8 (un8 kind), .string rec, .int .i64 more, .int .i64 near, .string ahead] w fun e w' => e = .returned (.bool true) ∧ Below w.heap.size w w' := by
  obtain ⟨i8, hi8, hz8, hs8, hb8⟩ := info8i
  have HI8 := Lib.hid hi8
  have HZ8 := Lib.hid hz8
  have HS8 := Lib.hid hs8
  have HB8 := Lib.hid hb8
  have HM0 := Lib.hid hm0
  have HM1 := Lib.hid hm1
  have HN0 := Lib.hid hn0
  have HN1 := Lib.hid hn1
  obtain ⟨r, er⟩ : ∃ r, r = rec.data.toList.take 60 := ⟨_, rfl⟩
  obtain ⟨sr, es⟩ : ∃ sr, sr = strB r := ⟨_, rfl⟩
  have HSR := Lib.hid (show sr.size = r.length by rw [es, strB_size])
  have HRL := Lib.hid (show r.length ≤ 60 by rw [er, List.length_take]; omega)
  have HRB := Lib.hid (show Lib.strCells sr = bv r by rw [es]; rfl)
  have HER := Lib.hid er
  have HES := Lib.hid es
  clear hi8 hz8 hs8 hb8 hm0 hm1 hn0 hn1 er es
  go_enter Try.func8, Try.ntmps8
  go_upto_if 23 with fail
  go_cut [1] (fun s1 wx => s1 = .string sr ∧ w = wx)
  case first =>
    by_cases h60 : rec.size ≤ 60
    · have h1 : ¬ ((60 : Int) < (rec.size : Int)) := by omega
      have e : rec = sr := by rw [HES.out, HER.out, List.take_of_length_le (by rw [data_length]; omega), strB_data]
      subst e
      clear h60
      go_wp2_with fail
      go_meet
      exact ⟨rfl, rfl⟩
    · have h1 : (60 : Int) < (rec.size : Int) := by omega
      have h2 : (60 : Int) ≤ (rec.size : Int) := by omega
      have e : rec.extract 0 60 = sr := by rw [extract_takew, HES.out, HER.out]
      clear h60
      go_wp2_with fail
      go_meet
      exact ⟨rfl, rfl⟩
  case rest =>
    obtain ⟨rfl, rfl⟩ := hcut
    have hsl : (sr.size : Int) ≤ 60 := by have := HSR.out; have := HRL.out; omega
    have hsl0 : (0 : Int) ≤ (sr.size : Int) := by omega
    go_upto_region 3 with fail
    go_cut [11] (fun s11 wx => ∃ m : Nat, m ≤ 4001 ∧ s11 = .int .i64 (m : Int) ∧ Below w.heap.size w wx)
    case first =>
      go_wp2_with fail
      refine (within_any more 0 5 _ (by omega) (by omega) (by omega) (by omega)).mono ?_
      rintro e w1 ⟨rfl, rfl⟩
      have hw := withinOf_range more 0 5 (by omega)
      obtain ⟨k, hk⟩ := Int.eq_ofNat_of_zero_le hw.1
      rw [hk]
      have hk6 : k = 0 ∨ k = 1 ∨ k = 2 ∨ k = 3 ∨ k = 4 ∨ k = 5 := by omega
      clear hw hk
      rcases hk6 with rfl | rfl | rfl | rfl | rfl | rfl
      · go_wp2_with fail
        go_meet
        exact ⟨0, by omega, rfl, (Below.refl _ _).alloc (Nat.le_refl _) _⟩
      · go_wp2_with fail
        go_meet
        exact ⟨0, by omega, rfl, (Below.refl _ _).alloc (Nat.le_refl _) _⟩
      · go_wp2_with fail
        go_meet
        exact ⟨0, by omega, rfl, (Below.refl _ _).alloc (Nat.le_refl _) _⟩
      · go_wp2_with fail
        go_meet
        exact ⟨4000 - sr.size - 1, by omega, by congr 1; omega, (Below.refl _ _).alloc (Nat.le_refl _) _⟩
      · go_wp2_with fail
        go_meet
        exact ⟨4000 - sr.size, by omega, by congr 1; omega, (Below.refl _ _).alloc (Nat.le_refl _) _⟩
      · go_wp2_with fail
        go_meet
        exact ⟨4000 - sr.size + 1, by omega, by congr 1; omega, (Below.refl _ _).alloc (Nat.le_refl _) _⟩
    case rest =>
      obtain ⟨m, hm, rfl, hb⟩ := hcut
      have HM := Lib.hid hm
      have HB := Lib.hid hb
      clear hm hb
      have hsz : sr.size ≤ 60 := by omega
      go_wp2_with (at_builtin; refine Lib.wpList_append_own_string _ rfl (.tmp 43) (.tmp 44) 37 9 rfl w.heap.size 5 i8 Try.underlying37 Try.underlying9 HI8.out HZ8.out HS8.out HB8.out (.slice (some ⟨wc.heap.size, 0, none⟩) 1 1) 1 (bv [kind]) rfl (World.ownsRow_lit wc #[.int .u8 (un8 kind)] 1 HB.out.size (by simp [maxLen]) rfl) sr rfl (by simp [maxLen]; omega) (by omega) (by have := HB.out.size; simp; omega) ?_)
      intro v2 w2 ho hg _
      have ho2 : w2.ownsRow w.heap.size 5 1 v2 (1 + sr.size) (bv (kind :: r)) := by
        rw [HRB.out] at ho
        exact ho
      obtain ⟨g, c2, rfl, hgB, _⟩ := own_form ho2 (by omega)
      have hb2 : Below w.heap.size w w2 := (HB.out.alloc HB.out.size _).grown hg (by have := HB.out.size; simp; omega) (fun k hk => by simp [Value.ownBlock] at hk; have := HB.out.size; omega)
      obtain ⟨v3, w3, hr3, ho3, hg3⟩ := run_append_own_zeros (P := Try.prog) w2 w.heap.size 37 3 37 5 i8 .i64 .i64 Try.underlying37 Try.underlying3 HI8.out HZ8.out HS8.out HB8.out g (1 + sr.size) c2 (bv (kind :: r)) ho2 m (by have := HM.out; omega) hb2.size
      have hb3 : Below w.heap.size w w3 := hb2.grown hg3 hb2.size (fun k hk => by cases hk; exact hgB)
      obtain ⟨A3, c3, rfl, _⟩ := own_slice ho3
      obtain ⟨bb, ebb⟩ : ∃ bb, bb = kind :: r ++ List.replicate m 0 := ⟨_, rfl⟩
      have hbl : bb.length = 1 + sr.size + m := by rw [ebb, HSR.out]; simp; omega
      have ho3' : w3.ownsRow w.heap.size 5 1 (.slice A3 (1 + sr.size + m) c3) (1 + sr.size + m) (bv bb) := by
        rw [show bv bb = bv (kind :: r) ++ List.replicate m (Value.int .u8 0) by rw [ebb, bv_append]; congr 1; simp [bv, B8, un8]]
        exact ho3
      have HR3 := Lib.hid hr3
      have O3 := Lib.hid ho3'
      have B3 := Lib.hid hb3
      have HBL := Lib.hid hbl
      clear ho hg ho2 hb2 hr3 ho3 hg3 hb3 ho3' ebb hbl hsz
      go_wp2_with (at_builtin; refine Lib.wpList_append_run _ rfl (.tmp 45) (.tmp 46) 37 3 rfl (.slice (some ⟨g, 0, none⟩) (1 + sr.size) c2) (.int .i64 (m : Int)) rfl rfl _ w3 HR3.out ?_)
      have hbl2 : (1 + sr.size + m : Int) = (bb.length : Int) := by have := HBL.out; omega
      have HB2 := Lib.hid hbl2
      clear hbl2
      go_wp2_with fail
      refine (crc_any A3 (1 + sr.size + m) c3 bb w3 HBL.out (by have := HM.out; omega) (own_RC O3.out).bytes).mono ?_
      rintro e w4 ⟨rfl, rfl⟩
      have HNL := Lib.hid (show sr.size + m ≤ 4061 by have := HM.out; omega)
      go_upto_if 52 with fail
      go_cut [13] (fun s13 wx => ∃ C : UInt32, s13 = .int .u32 (un32 C) ∧ w3 = wx)
      case first =>
        by_cases hrem : near.tmod 4 = 0
        · have hr0 : (near.tmod 4 == 0) = true := by rw [hrem]; rfl
          clear hrem
          go_wp2_with fail
          refine (within_any _ 0 31 _ (by omega) (by omega) (by omega) (by omega)).mono ?_
          rintro e w5 ⟨rfl, rfl⟩
          have hw := withinOf_range (wrap64 (near.tdiv 4)) 0 31 (by omega)
          generalize withinOf (wrap64 (near.tdiv 4)) 0 31 = z at *
          have hz0 : 0 ≤ z := hw.1
          have hz1 : z ≤ 31 := hw.2
          have hzw : IntKind.u64.wrap z = z := by rw [IntKind.wrap_u64]; omega
          clear hw
          go_wp2_with fail
          go_meet
          exact ⟨_, congrArg (Value.int .u32) (xor_any32 _ _).choose_spec, rfl⟩
        · have hr0 : (near.tmod 4 == 0) = false := by rw [beq_eq_false_iff_ne]; exact hrem
          clear hrem
          go_wp2_with fail
          go_meet
          exact ⟨crcOf bb, rfl, rfl⟩
      case rest =>
        obtain ⟨C, rfl, rfl⟩ := hcut
        obtain ⟨S, hS⟩ : ∃ S : Nat, S = sr.size + m := ⟨_, rfl⟩
        have hS1 : (1 : Int) + (sr.size : Int) + (m : Int) - 1 = (S : Int) := by omega
        have hSl : (S : Int) ≤ 4061 := by have := HNL.out; omega
        have hS0 : (0 : Int) ≤ (S : Int) := by omega
        obtain ⟨x1, h1⟩ := wrap8_any ((S : Int) / 16777216)
        obtain ⟨x2, h2⟩ := wrap8_any ((S : Int) / 65536)
        obtain ⟨x3, h3⟩ := wrap8_any ((S : Int) / 256)
        obtain ⟨x4, h4⟩ := wrap8_any (S : Int)
        obtain ⟨y1, g1⟩ := wrap8_any (un32 C / 16777216)
        obtain ⟨y2, g2⟩ := wrap8_any (un32 C / 65536)
        obtain ⟨y3, g3⟩ := wrap8_any (un32 C / 256)
        obtain ⟨y4, g4⟩ := wrap8_any (un32 C)
        have hcr := un32_range C
        have HSS := Lib.hid hS
        clear hS
        go_wp2_with (at_builtin; refine append_bytes rfl (.tmp 85) (.tmp 86) 37 rfl w.heap.size 5 Try.underlying37 info8 (.slice (some ⟨w3.heap.size, 0, none⟩) 8 8) [x1, x2, x3, x4, y1, y2, y3, y4] rfl (World.ownsRow_lit w3 (bv [x1, x2, x3, x4, y1, y2, y3, y4]).toArray 8 B3.out.size (by simp [maxLen]) rfl) _ _ _ bb rfl HBL.out ((own_RC O3.out).bytes.below ((Below.refl w3.heap.size w3).alloc (Nat.le_refl _) _)) ?c1 ?c2 ?_)
        case c1 => have := HNL.out; simp; omega
        case c2 => have := B3.out.size; simp; omega
        intro v5 w5 ho hg hat
        have hb5 : Below w.heap.size w w5 := (B3.out.alloc B3.out.size _).grown hg (by have := B3.out.size; simp; omega) (fun k hk => by simp [Value.ownBlock] at hk; have := B3.out.size; omega)
        obtain ⟨ff, eff⟩ : ∃ ff, ff = [x1, x2, x3, x4, y1, y2, y3, y4] ++ bb := ⟨_, rfl⟩
        obtain ⟨A5, c5, rfl, _⟩ := own_slice ho
        have O5 := Lib.hid (show w5.ownsRow w.heap.size 5 1 (.slice A5 (8 + (1 + sr.size + m)) c5) (8 + (1 + sr.size + m)) (bv ff) by rw [eff]; exact ho)
        have B5 := Lib.hid hb5
        have HFL := Lib.hid (show ff.length = 8 + (1 + sr.size + m) by rw [eff, List.length_append, HBL.out]; rfl)
        clear ho hg hat hb5 eff h1 h2 h3 h4 g1 g2 g3 g4 hcr
        go_wp2_with fail
        refine (few_any ahead _).mono ?_
        rintro e w6 ⟨rfl, rfl⟩
        obtain ⟨al, eal⟩ : ∃ al, al = ahead.data.toList.take 100 := ⟨_, rfl⟩
        rw [← eal]
        have HAL := Lib.hid (show al.length ≤ 100 by rw [eal, List.length_take]; omega)
        clear eal
        go_wp2_with fail
        refine (refFrame_any false (strB al) _ (by rw [strB_size]; have := HAL.out; omega)).mono ?_
        rw [strB_toList]
        rintro e w6 ⟨v6, rfl, ho, hb⟩
        have B6 := Lib.hid (below_below B5.out B5.out.size hb)
        have O56 := Lib.hid (own_below O5.out hb)
        have O6 := Lib.hid (own_lower ho B5.out.size)
        have HF6 := Lib.hid (show (frameOf false al).length ≤ 109 by rw [frameOf_length]; have := HAL.out; omega)
        have HV6 := Lib.hid (show ∀ k, v6.ownBlock = some k → w5.heap.size ≤ k from fun k hk => (World.ownsRow.lt ho k hk).1)
        have HS56 := Lib.hid (show ∀ k, (Value.slice A5 (8 + (1 + sr.size + m)) c5).ownBlock = some k → k < w5.heap.size from fun k hk => (World.ownsRow.lt O5.out k hk).2)
        clear ho hb
        go_wp2_with (at_builtin; refine append_bytes rfl (.tmp 90) (.tmp 91) 37 rfl w.heap.size 5 Try.underlying37 info8 v6 (frameOf false al) rfl O6.out _ _ _ ff rfl HFL.out (own_RC O56.out).bytes ?c3 ?c4 ?_)
        case c3 => have := HNL.out; have := HF6.out; omega
        case c4 => exact B6.out.size
        intro v7 w7 ho hg hat
        have B7 := Lib.hid (B6.out.grown hg B6.out.size (fun k hk => (World.ownsRow.lt O6.out k hk).1))
        obtain ⟨q1, eq1⟩ : ∃ q1, q1 = frameOf false al ++ ff := ⟨_, rfl⟩
        have hq1 : q1.length = (frameOf false al).length + (8 + (1 + sr.size + m)) := by rw [eq1, List.length_append, HFL.out]
        have O7 := Lib.hid (show w7.ownsRow w.heap.size 5 1 v7 q1.length (bv q1) by rw [hq1, eq1]; exact ho)
        have HQ1 := Lib.hid (show q1.length ≤ 4200 by rw [hq1]; have := HNL.out; have := HF6.out; omega)
        clear ho hg hat eq1 hq1
        go_wp2_with fail
        refine (refFrame_any false (strB [98, 101, 104, 105, 110, 100]) _ (by rw [strB_size]; simp)).mono ?_
        rw [strB_toList]
        rintro e w8 ⟨v8, rfl, ho, hb⟩
        obtain ⟨A8, c8, rfl, _⟩ := own_slice ho
        have B8 := Lib.hid (below_below B7.out B7.out.size hb)
        have O78 := Lib.hid (own_below O7.out hb)
        have O8 := Lib.hid ho
        have HF8 := Lib.hid (show (frameOf false [98, 101, 104, 105, 110, 100]).length = 15 from frameOf_length _ _)
        clear ho hb
        go_wp2_with (at_builtin; refine append_bytes rfl (.tmp 92) (.tmp 93) 37 rfl w.heap.size 5 Try.underlying37 info8 v7 q1 rfl O78.out _ _ _ (frameOf false [98, 101, 104, 105, 110, 100]) rfl rfl (own_RC O8.out).bytes ?c5 ?c6 ?_)
        case c5 => rw [HF8.out]; have := HQ1.out; omega
        case c6 => exact B8.out.size
        intro v9 w9 ho hg hat
        have B9 := Lib.hid (B8.out.grown hg B8.out.size (fun k hk => (World.ownsRow.lt O78.out k hk).1))
        obtain ⟨X, eX⟩ : ∃ X, X = q1 ++ frameOf false [98, 101, 104, 105, 110, 100] := ⟨_, rfl⟩
        have hX : X.length = q1.length + (frameOf false [98, 101, 104, 105, 110, 100]).length := by rw [eX, List.length_append]
        have ho9 : w9.ownsRow w.heap.size 5 1 v9 X.length (bv X) := by rw [hX, eX]; exact ho
        have HXL := Lib.hid (show X.length ≤ 4300 by rw [hX, HF8.out]; have := HQ1.out; omega)
        have HXE := Lib.hid hX
        rw [← hX] at ho
        obtain ⟨A9, c9, rfl, hXc⟩ := own_slice ho9
        have O9 := Lib.hid ho9
        have HXC := Lib.hid hXc
        clear ho hg hat eX hX ho9 hXc
        go_wp2_with fail
        refine (scan_any A9 X.length c9 X w9 rfl (by have := HXL.out; omega) HXC.out (own_RC O9.out).bytes).mono ?_
        obtain ⟨R, eR⟩ : ∃ R, R = scanOf X := ⟨_, rfl⟩
        rw [← eR]
        rintro e w10 ⟨v10, rfl, ho, hb⟩
        obtain ⟨A10, c10, rfl, _⟩ := own_slice ho
        have O10 := Lib.hid ho
        have B10 := Lib.hid (below_below B9.out B9.out.size hb)
        have O9' := Lib.hid (own_below O9.out hb)
        have ER := Lib.hid eR
        have HR1 := Lib.hid (show R.1.length ≤ X.length by rw [eR]; exact scanOf_len X)
        clear ho hb eR
        go_wp2_with fail
        refine (refScan_any A9 X.length c9 X w10 rfl (by have := HXL.out; omega) HXC.out (own_RC O9'.out).bytes).mono ?_
        rw [← ER.out]
        rintro e w11 ⟨v11, rfl, ho, hb⟩
        obtain ⟨A11, c11, rfl, _⟩ := own_slice ho
        have O11 := Lib.hid ho
        have O10' := Lib.hid (own_below O10.out hb)
        have B11 := Lib.hid (below_below B10.out B10.out.size hb)
        clear ho hb
        go_wp2_with fail
        refine (texts_any _ _ _ _ _ _ R.1 R.1 _ rfl rfl (by have := HR1.out; have := HXL.out; omega) (by have := HR1.out; have := HXL.out; omega) (own_RC O10'.out) (own_RC O11.out)).mono ?_
        rw [decide_eq_true (show R.1 = R.1 from rfl)]
        rintro e w12 ⟨rfl, hb⟩
        have B12 := Lib.hid (below_below B11.out B11.out.size hb)
        clear hb
        go_wp2_with fail
        refine (known6_any _).mono ?_
        rintro e w13 ⟨rfl, hb⟩
        have B13 := Lib.hid (below_below B12.out B12.out.size hb)
        clear hb
        go_wp2_with fail
        go_ret
        exact ⟨rfl, B13.out⟩

end Go.Proofs.Ythlbmjjodjepjaa
