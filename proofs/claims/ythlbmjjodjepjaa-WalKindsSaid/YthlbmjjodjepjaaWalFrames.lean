/-
  The walk of the law WalFrames.
-/
import Derived.Test.YthlbmjjodjepjaaKnown6
import Derived.Test.YthlbmjjodjepjaaRefWal
import Derived.Test.YthlbmjjodjepjaaBook
import Derived.Test.YthlbmjjodjepjaaWithin
import Derived.Deep.CutBlock
set_option linter.unusedVariables false
set_option linter.unusedSimpArgs false
namespace Go.Proofs.Ythlbmjjodjepjaa
open Go.RowKit

theorem roomy165w (A : Option Addr) (n c : Nat) (l : List UInt8) (w : World) (hl : l.length = n) (hn : n ≤ 100000000) (hr : RB w A l) :
    Calls Try.prog 25 #[.slice A n c, .int .u8 165] w fun e w' => e = .returned (.slice (some ⟨w.heap.size, 0, none⟩) (n + 80) (n + 80)) ∧ Arr w' w.heap.size 5 (bv (l ++ List.replicate 80 165)) ∧ Below w.heap.size w w' := roomy8_any A n c l 165 w hl hn hr
theorem intact165w (A1 A2 : Option Addr) (n c1 c2 : Nat) (l : List UInt8) (w : World) (hl : l.length = n) (hn : n ≤ 100000000) (hc : n + 80 ≤ c1) (h1 : RB w A1 (l ++ List.replicate 80 165)) (h2 : RB w A2 l) :
    Calls Try.prog 29 #[.slice A1 (n + 80) c1, .slice A2 n c2, .int .u8 165] w fun e w' => e = .returned (.bool true) ∧ Below w.heap.size w w' := intact8_any A1 A2 n c1 c2 l 165 w hl hn hc h1 h2
theorem extract_takew (s : ByteArray) (k : Nat) : s.extract 0 k = strB (s.data.toList.take k) := by
  have h := ByteArray.extract_mk s.data.toList 0 k
  rw [data_eq] at h
  simpa [strB] using h

theorem scanGo_len : ∀ (f : Nat) (b : List UInt8) (out : List (List UInt8)) (n : Nat), (scanGo f b out n).1.length ≤ out.length + b.length
  | 0, b, out, n => by simp [scanGo]
  | f + 1, b, out, n => by
    unfold scanGo
    cases h : oneOf b with
    | none => simp
    | some p =>
      obtain ⟨x, r⟩ := p
      have h1 := oneOf_length h
      have h2 := scanGo_len f (b.drop (9 + r.length)) ((if x then [] else out) ++ [r]) (n + (9 + r.length))
      rw [List.length_drop, List.length_append, List.length_singleton] at h2
      have h3 : (if x = true then [] else out).length ≤ out.length := by cases x <;> simp
      simp only
      omega
theorem scanOf_len (b : List UInt8) : (scanOf b).1.length ≤ b.length := by
  have := scanGo_len (b.length + 1) b [] 0
  simpa [scanOf] using this

/-- Bytes of one's own that are known to be few. -/
def Own8 (w : World) (B : Nat) (v : Value) (m : Nat) : Prop := ∃ y : List UInt8, y.length ≤ m ∧ w.ownsRow B 5 1 v y.length (bv y)

section
attribute [local go_sem] xor8
set_option maxRecDepth 100000 in
set_option maxHeartbeats 16000000 in
theorem walFrames_any (A0 : Option Addr) (n0 c0 : Nat) (lb : List UInt8) (A1 : Option Addr) (n1 c1 : Nat) (L : List (List UInt8)) (A2 : Option Addr) (n2 c2 : Nat) (bs : List Bool) (at_ : Int) (turn : UInt8) (cut : Int) (w : World)
    (hl0 : lb.length = n0) (hn0 : n0 ≤ c0) (hc0 : c0 ≤ 9223372036854775807) (hr0 : RB w A0 lb) (hl1 : L.length = n1) (hn1 : n1 ≤ 9223372036854775807) (hr1 : RS w A1 L) (hl2 : bs.length = n2) (hn2 : n2 ≤ 9223372036854775807) (hr2 : RC w A2 (bs.map Value.bool))
    (ha0 : -9223372036854775808 ≤ at_) (ha1 : at_ ≤ 9223372036854775807) (hk0 : -9223372036854775808 ≤ cut) (hk1 : cut ≤ 9223372036854775807) :
    Calls Try.prog 5 #[.slice A0 n0 c0, .slice A1 n1 c1, .slice A2 n2 c2, .int .i64 at_, .int .u8 (un8 turn), .int .i64 cut] w fun e w' => e = .returned (.bool true) ∧ Below w.heap.size w w' := by
  subst hl0
  subst hl1
  subst hl2
  have HL0 := Lib.hid hr0
  have HL1 := Lib.hid hr1
  have HL2 := Lib.hid hr2
  have HA0 := Lib.hid ha0
  have HA1 := Lib.hid ha1
  have HK0 := Lib.hid hk0
  have HK1 := Lib.hid hk1
  clear hr0 hr1 hr2 ha0 ha1 hk0 hk1
  go_enter Try.func5, Try.ntmps5
  go_upto_block 0 with fail
  go_cut [13] (fun s13 wx => Own8 wx w.heap.size s13 2600 ∧ Below w.heap.size w wx)
  case first =>
    go_wp2_with fail
    go_loopg [13, 14] 8 (fun k s13 s14 wr => ∃ i : Nat, i ≤ 8 ∧ i ≤ L.length ∧ k = 8 - i ∧ s14 = .int .i64 (i : Int) ∧ Own8 wr w.heap.size s13 (320 * i) ∧ Below w.heap.size w wr)
    case atStart => exact ⟨0, by omega, Nat.zero_le _, by omega, rfl, ⟨[], by simp, World.ownsRow_nil _ _ _ _⟩, Below.refl _ _⟩
    case round =>
      obtain ⟨i, hi8, hi, hk, rfl, ⟨y, hy, ho⟩, hb⟩ := hrel
      have HK := Lib.hid hk
      have HY := Lib.hid hy
      have HO := Lib.hid ho
      have HB := Lib.hid hb
      clear hk hy ho hb
      by_cases hlt : i < L.length ∧ i < 8
      · obtain ⟨hlt, hlt8⟩ := hlt
        obtain ⟨bl, ol, rfl, e1⟩ := HL1.out.parts (by rw [sv_length]; omega)
        have k1 := cell_below HB.out (e1 i _ (sv_get' L i hlt))
        have HI := Lib.hid (strB_toList L[i])
        have HZ := Lib.hid (strB_size L[i])
        generalize L[i] = x at *
        clear e1
        obtain ⟨sx, ex⟩ : ∃ sx, sx = strB x := ⟨_, rfl⟩
        rw [← ex] at HI HZ k1
        obtain ⟨sz, ez⟩ : ∃ sz, sz = strB (x.take 300) := ⟨_, rfl⟩
        have HSX := Lib.hid ex
        have HSZ := Lib.hid ez
        have HLZ := Lib.hid (show sz.data.toList = x.take 300 by rw [ez, strB_toList])
        have HLS := Lib.hid (show sz.size ≤ 300 by rw [ez, strB_size, List.length_take]; omega)
        obtain ⟨f, hf⟩ : ∃ f, f = bs.getD i false := ⟨_, rfl⟩
        have HF := Lib.hid hf
        have HLT := Lib.hid hlt
        have HLT8 := Lib.hid hlt8
        clear ex ez hf
        go_upto_if 39 with fail
        go_cut [15] (fun s15 wx => s15 = .string sz ∧ wr = wx)
        case first =>
          by_cases h300 : sx.size ≤ 300
          · have h1 : ¬ ((300 : Int) < (sx.size : Int)) := by omega
            have e : sx = sz := by rw [HSX.out, HSZ.out, List.take_of_length_le (by have := HZ.out; omega)]
            subst e
            clear h300
            go_wp2_with fail
            go_meet
            exact ⟨rfl, rfl⟩
          · have h1 : (300 : Int) < (sx.size : Int) := by omega
            have h2 : (300 : Int) ≤ (sx.size : Int) := by omega
            have e : sx.extract 0 300 = sz := by rw [extract_takew, HI.out, HSZ.out]
            clear h300
            go_wp2_with fail
            go_meet
            exact ⟨rfl, rfl⟩
        case rest =>
          obtain ⟨rfl, rfl⟩ := hcut
          go_upto_region 8 with fail
          go_cut [16] (fun s16 wx => s16 = .bool f ∧ wr = wx)
          case first =>
            have hf := HF.out
            by_cases hbl : i < bs.length
            · obtain ⟨b3, o3, rfl, e3⟩ := HL2.out.parts (by rw [List.length_map]; omega)
              have k3 := cell_below HB.out (e3 i (.bool f) (by rw [List.getElem?_map, List.getElem?_eq_getElem hbl, hf, List.getD_eq_getElem?_getD, List.getElem?_eq_getElem hbl]; rfl))
              clear e3 hf
              go_wp2_with fail
              go_meet
              exact ⟨rfl, rfl⟩
            · have hf0 : f = false := by rw [hf, List.getD_eq_getElem?_getD, List.getElem?_eq_none (by omega)]; rfl
              subst hf0
              have hbl' : decide ((i : Int) < (bs.length : Int)) = false := by simp; omega
              clear hf
              go_wp2_with fail
              go_meet
              exact ⟨rfl, rfl⟩
          case rest =>
            obtain ⟨rfl, rfl⟩ := hcut
            clear k1
            obtain ⟨z, ez⟩ : ∃ z, z = strB (frameOf f (x.take 300)) := ⟨_, rfl⟩
            have HEZ := Lib.hid ez
            clear ez
            have conv : ∀ (W : World) (A : Option Addr) (c : Nat), W.ownsRow w.heap.size 5 1 (.slice A (frameOf f (x.take 300)).length c) (frameOf f (x.take 300)).length (bv (frameOf f (x.take 300))) → (convert 37 9 (.slice A (frameOf f (x.take 300)).length c)).run Try.prog W = .ok (.string z) W := fun W A c h => by
              rw [HEZ.out]
              exact run_string_RB (P := Try.prog) W 37 9 5 Try.underlying37 Try.underlying5 Try.underlying9 A _ c _ rfl (own_RC h).bytes
            have CONV := Lib.hid conv
            clear conv
            go_upto_region 9 with fail
            go_cut [60] (fun s60 wx => s60 = .bool false ∧ Below wr.heap.size wr wx)
            case first =>
              go_region_law (first
                | (refine op_call #[.bool f, .string sz] (by simp [Region.wanted]) rfl Try.func23 (by kernel_rfl) rfl (by simp [Act.eval, Act.put]) ?_; refine (frame_any f sz _ (by have := HLS.out; omega)).mono ?_; rw [HLZ.out]; rintro e w2 ⟨v2, rfl, ho2, hb2⟩; obtain ⟨A2', c2', rfl, _⟩ := own_slice ho2; have hcb := (below_below hbR hbR.size hb2); have hoR2 := own_below hoR hb2; have hstR2 := CONV.out _ _ _ hoR2; have hst2 := CONV.out _ _ _ (own_lower ho2 (Nat.le_trans HB.out.size hbR.size)); refine ⟨_, rfl, ?_⟩)
                | (refine op_call #[.bool f, .string sz] (by simp [Region.wanted]) rfl Try.func23 (by kernel_rfl) rfl (by simp [Act.eval, Act.put]) ?_; refine (frame_any f sz wr.drew (by have := HLS.out; omega)).mono ?_; rw [HLZ.out]; rintro e w1 ⟨v1, rfl, ho1, hb1⟩; obtain ⟨A1', c1', rfl, _⟩ := own_slice ho1; have hbW : Below wr.heap.size wr w1 := ((Below.refl wr.heap.size wr).drew).trans hb1; have hoW := own_lower ho1 (show w.heap.size ≤ wr.drew.heap.size from HB.out.size); have hstW := CONV.out _ _ _ hoW; refine ⟨_, rfl, ?_⟩)
                | (refine op_call #[.bool f, .string sz] (by simp [Region.wanted]) rfl Try.func24 (by kernel_rfl) rfl (by simp [Act.eval, Act.put]) ?_; refine (refFrame_any f sz _ (by have := HLS.out; omega)).mono ?_; rw [HLZ.out]; rintro e w2 ⟨v2, rfl, ho2, hb2⟩; obtain ⟨A2', c2', rfl, _⟩ := own_slice ho2; have hcb := (below_below hbW hbW.size hb2); have hoW2 := own_below hoW hb2; have hstW2 := CONV.out _ _ _ hoW2; have hst2 := CONV.out _ _ _ (own_lower ho2 (Nat.le_trans HB.out.size hbW.size)); refine ⟨_, rfl, ?_⟩)
                | (refine op_call #[.bool f, .string sz] (by simp [Region.wanted]) rfl Try.func24 (by kernel_rfl) rfl (by simp [Act.eval, Act.put]) ?_; refine (refFrame_any f sz wr.drew (by have := HLS.out; omega)).mono ?_; rw [HLZ.out]; rintro e w1 ⟨v1, rfl, ho1, hb1⟩; obtain ⟨A1', c1', rfl, _⟩ := own_slice ho1; have hbR : Below wr.heap.size wr w1 := ((Below.refl wr.heap.size wr).drew).trans hb1; have hoR := own_lower ho1 (show w.heap.size ≤ wr.drew.heap.size from HB.out.size); have hstR := CONV.out _ _ _ hoR; refine ⟨_, rfl, ?_⟩))
              all_goals
                go_wp2_with fail
                go_meet
                exact ⟨rfl, hcb⟩
            case rest =>
              obtain ⟨rfl, hbx⟩ := hcut
              have HBc := Lib.hid (below_below HB.out HB.out.size hbx)
              have HOc := Lib.hid (own_below HO.out hbx)
              clear hbx CONV
              go_wp2_with fail
              refine (refFrame_any f sz _ (by have := HLS.out; omega)).mono ?_
              rw [HLZ.out]
              rintro e w5 ⟨v5, rfl, ho, hb⟩
              obtain ⟨A5, c5, rfl, _⟩ := own_slice ho
              have O5 := Lib.hid ho
              have HBd := Lib.hid (below_below HBc.out HBc.out.size hb)
              have HOd := Lib.hid (own_below HOc.out hb)
              have HFL := Lib.hid (show (frameOf f (x.take 300)).length ≤ 309 by rw [frameOf_length, List.length_take]; omega)
              clear ho hb
              go_wp2_with (at_builtin; refine append_bytes rfl (.tmp 61) (.tmp 64) 37 rfl w.heap.size 5 Try.underlying37 info8 u13 y rfl HOd.out _ _ _ (frameOf f (x.take 300)) rfl rfl (own_RC O5.out).bytes ?c1 ?c2 ?_)
              case c1 => have := HFL.out; have := HY.out; omega
              case c2 => exact HBd.out.size
              intro v6 w6 ho hg hat
              have O6 := Lib.hid (show Own8 w6 w.heap.size v6 (320 * (i + 1)) from ⟨y ++ frameOf f (x.take 300), by have := HFL.out; have := HY.out; rw [List.length_append]; omega, by rw [List.length_append]; exact ho⟩)
              have HB6 := Lib.hid (HBd.out.grown hg HBd.out.size (fun k hk => (World.ownsRow.lt HOd.out k hk).1))
              clear ho hg hat
              go_wp2_with fail
              go_roundg (8 - (i + 1))
              case measure => have := HK.out; have := HLT8.out; omega
              case rel => exact ⟨i + 1, HLT8.out, HLT.out, rfl, by go_num, O6.out, HB6.out⟩
      · have HD2 := Lib.hid (show ¬ (i < L.length) ∨ ¬ (i < 8) by omega)
        have HO8 := Lib.hid (show Own8 wr w.heap.size u13 2600 from ⟨y, by have := HY.out; omega, HO.out⟩)
        clear hlt hi hi8 HK
        by_cases hA : i < L.length
        · have h20 : decide ((i : Int) < 8) = false := by have := HD2.out; simp; omega
          go_wp2_with fail
          go_meet
          exact ⟨HO8.out, HB.out⟩
        · have hA' : decide ((i : Int) < (L.length : Int)) = false := by simp; omega
          go_wp2_with fail
          go_meet
          exact ⟨HO8.out, HB.out⟩
  case rest =>
    obtain ⟨⟨y, hy, ho⟩, hb⟩ := hcut
    obtain ⟨A3, c3, rfl, hyc⟩ := own_slice ho
    have HO := Lib.hid ho
    have HB := Lib.hid hb
    clear ho hb
    go_upto_if 68 with fail
    go_cut [13] (fun s13 wx => ∃ (y : List UInt8) (A : Option Addr) (c : Nat), y.length ≤ 2600 ∧ y.length ≤ c ∧ s13 = .slice A y.length c ∧ wx.ownsRow w.heap.size 5 1 (.slice A y.length c) y.length (bv y) ∧ Below w.heap.size w wx)
    case first =>
      by_cases hy0 : y.length = 0
      · have h0 : ¬ ((0 : Int) < (y.length : Int)) := by omega
        have HYC := Lib.hid hyc
        have HY := Lib.hid hy
        clear hyc hy
        go_wp2_with fail
        go_meet
        exact ⟨y, A3, c3, HY.out, HYC.out, by rw [hy0], HO.out, HB.out⟩
      · obtain ⟨g, c3', e3, hgB, _⟩ := own_form HO.out (by omega)
        cases e3
        have hpos : (0 : Int) < (y.length : Int) := by omega
        have HA0' := HA0.out
        have HA1' := HA1.out
        go_wp2_with fail
        refine (within_any at_ 0 ((y.length : Int) - 1) _ (by omega) (by omega) (by omega) (by omega)).mono ?_
        rintro e w1 ⟨rfl, rfl⟩
        have hw := withinOf_range at_ 0 ((y.length : Int) - 1) (by omega)
        obtain ⟨k, hk⟩ := Int.eq_ofNat_of_zero_le hw.1
        rw [hk]
        have hkl : k < y.length := by omega
        have hcell := own_byte HO.out k hkl
        have hfro := HO.out.frozenAt k
        have hkl' : (k : Int) < (y.length : Int) := by omega
        have O1 := Lib.hid (own_store HO.out k (y[k] ^^^ turn))
        have B1 := Lib.hid (HB.out.setCell (p := ⟨g, k, none⟩) hgB (.int .u8 (un8 (y[k] ^^^ turn))))
        have HLEN := Lib.hid (show (y.set k (y[k] ^^^ turn)).length = y.length by simp)
        generalize y.set k (y[k] ^^^ turn) = y' at *
        generalize y[k] = yk at *
        have HKL := Lib.hid hkl
        have HYC := Lib.hid hyc
        have HY := Lib.hid hy
        clear hw hk hkl hy0 HA0' HA1'
        by_cases hrem : cut.tmod 3 = 0
        · have hr0 : (cut.tmod 3 == 0) = true := by rw [hrem]; rfl
          clear hrem
          go_wp2_with fail
          refine (within_any cut 0 ((y.length : Int) - 1) _ (by omega) (by have := HY.out; omega) (by have := HY.out; omega) (by have := HY.out; omega)).mono ?_
          rintro e w2 ⟨rfl, rfl⟩
          have hw := withinOf_range cut 0 ((y.length : Int) - 1) (by omega)
          obtain ⟨k2, hk2⟩ := Int.eq_ofNat_of_zero_le hw.1
          rw [hk2]
          have hkl2 : k2 ≤ y.length := by omega
          have hkc : (k2 : Int) ≤ (c3 : Int) := by have := HYC.out; omega
          have O2 := Lib.hid (own_take O1.out k2 (by omega))
          have HK2 := Lib.hid hkl2
          clear hw hk2 hkl2
          go_wp2_with fail
          go_meet
          have hlt2 : (y'.take k2).length = k2 := by rw [List.length_take]; have := HLEN.out; have := HK2.out; omega
          refine ⟨y'.take k2, some ⟨g, 0, none⟩, c3, by have := HY.out; have := HK2.out; omega, by have := HYC.out; have := HK2.out; omega, by rw [hlt2], ?_, B1.out⟩
          rw [hlt2]
          have h := O2.out
          rw [show (bv y').take (k2 * 1) = bv (y'.take k2) by simp [bv]] at h
          exact h
        · have hr0 : (cut.tmod 3 == 0) = false := by rw [beq_eq_false_iff_ne]; exact hrem
          clear hrem
          go_wp2_with fail
          go_meet
          refine ⟨y', some ⟨g, 0, none⟩, c3, by rw [HLEN.out]; exact HY.out, by rw [HLEN.out]; exact HYC.out, by rw [HLEN.out], ?_, B1.out⟩
          rw [HLEN.out]
          exact O1.out
    case rest =>
      obtain ⟨y, A3, c3, hy, hyc, rfl, ho, hb⟩ := hcut
      have HO := Lib.hid ho
      have HB := Lib.hid hb
      have HY := Lib.hid hy
      clear ho hb hy hyc
      go_upto_if 95 with fail
      go_cut [0] (fun s0 wx => ∃ (l' : List UInt8), l'.length ≤ 500 ∧ s0 = .slice A0 l'.length c0 ∧ RB wx A0 l' ∧ wc = wx)
      case first =>
        have hR := HL0.out.below HB.out
        have HR := Lib.hid hR
        clear hR
        by_cases h500 : lb.length ≤ 500
        · have h1 : ¬ ((500 : Int) < (lb.length : Int)) := by omega
          go_wp2_with fail
          go_meet
          exact ⟨lb, h500, rfl, HR.out, rfl⟩
        · have h1 : (500 : Int) < (lb.length : Int) := by omega
          have h2 : (500 : Int) ≤ (c0 : Int) := by omega
          have HT := Lib.hid (show (lb.take 500).length = 500 by rw [List.length_take]; omega)
          clear h500
          go_wp2_with fail
          go_meet
          exact ⟨lb.take 500, by rw [HT.out]; omega, by rw [HT.out], RB_take HR.out 500, rfl⟩
      case rest =>
        obtain ⟨l', hl', rfl, hr, rfl⟩ := hcut
        have HR := Lib.hid hr
        have HL' := Lib.hid hl'
        clear hr hl'
        go_wp2_with (at_builtin; refine append_bytes rfl (.tmp 98) (.tmp 99) 37 rfl w.heap.size 5 Try.underlying37 info8 (.slice A3 y.length c3) y rfl HO.out _ _ _ l' rfl rfl HR.out ?c1 ?c2 ?_)
        case c1 => have := HY.out; have := HL'.out; omega
        case c2 => exact HB.out.size
        intro v5 w5 ho hg hat
        have HB5 := Lib.hid (HB.out.grown hg HB.out.size (fun k hk => (World.ownsRow.lt HO.out k hk).1))
        have hxl : (y ++ l').length = y.length + l'.length := List.length_append
        obtain ⟨X, eX⟩ : ∃ X, X = y ++ l' := ⟨_, rfl⟩
        rw [← hxl, ← eX] at ho
        have HXL := Lib.hid (show X.length ≤ 3100 by rw [eX, hxl]; have := HY.out; have := HL'.out; omega)
        have HXE := Lib.hid (show y.length + l'.length = X.length by rw [eX, hxl])
        obtain ⟨A5, c5, rfl, hXc⟩ := own_slice ho
        have O5 := Lib.hid ho
        have HXC := Lib.hid hXc
        clear ho hg hat hxl eX hXc
        go_wp2_with fail
        refine (roomy165w A5 X.length c5 X w5 rfl (by have := HXL.out; omega) (own_RC O5.out).bytes).mono ?_
        rintro e w6 ⟨rfl, ha, hb⟩
        have HB6 := Lib.hid (below_below HB5.out HB5.out.size hb)
        have O6 := Lib.hid (own_below O5.out hb)
        have HF := Lib.hid (show RB w6 (some ⟨w5.heap.size, 0, none⟩) (X ++ List.replicate 80 165) by
          intro _
          exact ⟨_, rfl, fun j hj => by rw [add_plain]; exact ha.byte hj⟩)
        have HX := Lib.hid (show RB w6 (some ⟨w5.heap.size, 0, none⟩) X by have := RB_take HF.out X.length; simpa using this)
        clear ha hb
        generalize w5.heap.size = q at *
        have hx80 : (X.length : Int) ≤ (X.length : Int) + 80 := by omega
        go_wp2_with fail
        refine (scan_any (some ⟨q, 0, none⟩) X.length (X.length + 80) X w6 rfl (by have := HXL.out; omega) (by omega) HX.out).mono ?_
        obtain ⟨R, eR⟩ : ∃ R, R = scanOf X := ⟨_, rfl⟩
        rw [← eR]
        rintro e w7 ⟨v7, rfl, ho, hb⟩
        obtain ⟨A7, c7, rfl, _⟩ := own_slice ho
        have O7 := Lib.hid ho
        have HB7 := Lib.hid (below_below HB6.out HB6.out.size hb)
        have O67 := Lib.hid (own_below O6.out hb)
        have HF7 := Lib.hid (HF.out.below hb)
        have ER := Lib.hid eR
        have HR1 := Lib.hid (show R.1.length ≤ X.length by rw [eR]; exact scanOf_len X)
        clear ho hb eR
        go_wp2_with fail
        refine (refScan_any A5 X.length c5 X w7 rfl (by have := HXL.out; omega) HXC.out (own_RC O67.out).bytes).mono ?_
        rw [← ER.out]
        rintro e w8 ⟨v8, rfl, ho, hb⟩
        obtain ⟨A8, c8, rfl, _⟩ := own_slice ho
        have O8 := Lib.hid ho
        have O78 := Lib.hid (own_below O7.out hb)
        have HB8 := Lib.hid (below_below HB7.out HB7.out.size hb)
        have O68 := Lib.hid (own_below O67.out hb)
        have HF8 := Lib.hid (HF7.out.below hb)
        clear ho hb
        go_wp2_with fail
        refine (texts_any _ _ _ _ _ _ R.1 R.1 _ rfl rfl (by have := HR1.out; have := HXL.out; omega) (by have := HR1.out; have := HXL.out; omega) (own_RC O78.out) (own_RC O8.out)).mono ?_
        rw [decide_eq_true (show R.1 = R.1 from rfl)]
        rintro e w9 ⟨rfl, hb⟩
        have HB9 := Lib.hid (below_below HB8.out HB8.out.size hb)
        have O69 := Lib.hid (own_below O68.out hb)
        have HF9 := Lib.hid (HF8.out.below hb)
        clear hb
        go_wp2_with fail
        refine (intact165w _ _ X.length _ _ X w9 rfl (by have := HXL.out; omega) (by omega) HF9.out (own_RC O69.out).bytes).mono ?_
        rintro e w10 ⟨rfl, hb⟩
        have HB10 := Lib.hid (below_below HB9.out HB9.out.size hb)
        clear hb
        go_wp2_with fail
        refine (known6_any _).mono ?_
        rintro e w11 ⟨rfl, hb⟩
        have HB11 := Lib.hid (below_below HB10.out HB10.out.size hb)
        clear hb
        go_wp2_with fail
        go_ret
        exact ⟨rfl, HB11.out⟩
end

end Go.Proofs.Ythlbmjjodjepjaa
