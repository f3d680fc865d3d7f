/-
  The walk of the law DiskRounds.
-/
import Derived.Test.YtiefgnmekikckaaKnown4
import Derived.Test.YtiefgnmekikckaaOutline
import Derived.Test.YtiefgnmekikckaaArgs
import Derived.Test.YtiefgnmekikckaaWithin
set_option linter.unusedVariables false
set_option linter.unusedSimpArgs false
namespace Go.Proofs.Ytiefgnmekikckaa
open Go.RowKit

theorem bytes_append (l m : List UInt8) : (⟨l.toArray⟩ : ByteArray) ++ ⟨m.toArray⟩ = ⟨(l ++ m).toArray⟩ := by
  apply ByteArray.ext
  simp

/-- What holds within the region that cuts the disk at its end. -/
structure RoundI (w w0 : World) (v5 : Value) (b5 : List UInt8) (n5 : Nat) (l : Array Bool) (w' : World) : Prop where
  below : Below w.heap.size w w'
  size : w0.heap.size ≤ w'.heap.size
  disk : l.getD 21 false = false → DiskAt w' w.heap.size w.heap.size v5 b5 n5
theorem RoundI.set {w w0 : World} {v5 : Value} {b5 : List UInt8} {n5 : Nat} {l : Array Bool} {w' : World} (h : RoundI w w0 v5 b5 n5 l w') (i : Nat) : RoundI w w0 v5 b5 n5 (l.setIfInBounds i true) w' := by
  refine ⟨h.below, h.size, fun hl => h.disk ?_⟩
  rw [Array.getD_eq_getD_getElem?, Array.getElem?_setIfInBounds] at hl
  rw [Array.getD_eq_getD_getElem?]
  by_cases hi : i = 21
  · subst hi
    by_cases hs : 21 < l.size
    · simp [hs] at hl
    · simp [hs]
  · rwa [if_neg hi] at hl

theorem lost_cut (k : Nat) (hk : k ≤ 4) (w : World) : (Instr.slice 9 (.string ⟨#[108, 111, 115, 116]⟩) none (some (.int .i64 (k : Int))) none).run Try.prog w = .ok (.string ⟨(([108, 111, 115, 116] : List UInt8).take k).toArray⟩) w := by
  have h : k = 0 ∨ k = 1 ∨ k = 2 ∨ k = 3 ∨ k = 4 := by omega
  rcases h with rfl | rfl | rfl | rfl | rfl <;> rfl

set_option maxRecDepth 10000 in
set_option maxHeartbeats 8000000 in
theorem diskRounds_any (A : Option Addr) (n c : Nat) (L : List (List UInt8)) (A' : Option Addr) (n' c' : Nat) (zs : List Int) (w : World)
    (hl : L.length = n) (hn : n ≤ 9223372036854775807) (hr : RBB w A L) (hl' : zs.length = n') (hn' : n' ≤ 9223372036854775807) (hr' : RI w A' zs) :
    Calls Try.prog 9 #[.slice A n c, .slice A' n' c'] w fun e w' => e = .returned (.bool true) ∧ Below w.heap.size w w' := by
  subst hl
  subst hl'
  have HL := Lib.hid hr
  have HZ := Lib.hid hr'
  clear hr hr'
  have kc := fun (w : World) (C : Array Value) (n c : Nat) => Lib.run_convert_bytes_const (P := Try.prog) w 22 5 C n c Try.underlying22 Try.underlying5
  go_enter Try.func9, Try.ntmps9
  go_wp2_with fail
  refine (diskNew_any _).mono ?_
  rintro e w1 ⟨rfl, hd, hb⟩
  have D1 := Lib.hid hd
  have B1 := Lib.hid hb
  clear hd hb
  go_wp2_with fail
  go_loopg [6, 7] 12 (fun k s6 s7 wr => ∃ (i : Nat) (v : Value) (b : List UInt8), i ≤ L.length ∧ i ≤ 12 ∧ k = 12 - i ∧ s7 = .int .i64 (i : Int) ∧ s6 = .string ⟨b.toArray⟩ ∧ b.length ≤ 100 * i ∧ DiskAt wr w.heap.size w.heap.size v b b.length ∧ Below w.heap.size w wr)
  case atStart => exact ⟨0, _, [], Nat.zero_le _, by omega, by omega, rfl, rfl, by simp, D1.out, B1.out⟩
  case round =>
    obtain ⟨i, v, b, hi, hi12, hk, rfl, rfl, hbl, hd, hb⟩ := hrel
    have HK := Lib.hid hk
    have D2 := Lib.hid hd
    have B2 := Lib.hid hb
    clear hk hd hb D1 B1
    by_cases hlt : i < L.length ∧ i < 12
    · obtain ⟨hlt, hlt12⟩ := hlt
      obtain ⟨ad, rfl, hc⟩ := HL.out (by omega)
      obtain ⟨Ai, ci, h1, h2, h3, h4⟩ := hc i hlt
      have hcell := cell_below B2.out h1
      have HRi := Lib.hid h4
      unfold maxLen at h3
      clear hc h1 h4
      go_upto_if 29 with fail
      go_cut [8] (fun s8 wx => ∃ (m : Nat) (x : List UInt8), x.length = m ∧ m ≤ 100 ∧ m ≤ ci ∧ RB w Ai x ∧ s8 = .slice Ai m ci ∧ wr = wx)
      case first =>
        go_wp2_with fail
        · go_meet
          exact ⟨100, L[i].take 100, by simp; omega, by omega, by omega, RB_take HRi.out _, rfl, rfl⟩
        · go_meet
          exact ⟨L[i].length, L[i], rfl, by omega, by omega, HRi.out, rfl, rfl⟩
      case rest =>
        obtain ⟨m, x, hx, hm, hmc, hrx, rfl, rfl⟩ := hcut
        subst hx
        have HX := Lib.hid hrx
        clear hrx HRi hcell
        go_wp2_with fail
        refine (diskAppend_any _ w.heap.size w.heap.size _ b _ D2.out Ai x.length ci x rfl (HX.out.below B2.out) (by omega)).mono ?_
        rintro e w3 ⟨v3, rfl, hd, hu, _⟩
        have D3 := Lib.hid hd
        have B3 := Lib.hid (D2.out.goes B2.out hu)
        clear hd hu
        go_wp2_with fail
        refine (diskSync_any _ w.heap.size w.heap.size _ _ _ D3.out).mono ?_
        rintro e w4 ⟨v4, rfl, hd, hu, _⟩
        have D4 := Lib.hid hd
        have B4 := Lib.hid (D3.out.goes B3.out hu)
        clear hd hu
        obtain ⟨sb, sx, sw, eb, ex, ew, hsb, hsx, hsw⟩ : ∃ sb sx sw : ByteArray, sb = ⟨b.toArray⟩ ∧ sx = ⟨x.toArray⟩ ∧ sw = ⟨(b ++ x).toArray⟩ ∧ sb.size = b.length ∧ sx.size = x.length ∧ sw.size = b.length + x.length :=
          ⟨_, _, _, rfl, rfl, rfl, by show b.toArray.size = _; simp, by show x.toArray.size = _; simp, by show (b ++ x).toArray.size = _; simp⟩
        have hadd : ∀ w : World, (Op.stringOp .add sb sx).run Try.prog w = .ok (.string sw) w := fun w => by rw [run_string_add_sum (P := Try.prog) (w := w) sb sx (by omega), eb, ex, ew, bytes_append]
        have hst := run_string_RB (P := Try.prog) w4 22 9 5 Try.underlying22 Try.underlying5 Try.underlying9 Ai x.length ci x rfl (HX.out.below B4.out)
        rw [← ex] at hst
        rw [← eb]
        have EW := Lib.hid ew
        have HSW := Lib.hid hsw
        clear hsb hsx hsw eb ex ew
        go_wp2_with fail
        clear hst hadd
        refine (diskAppend_any _ w.heap.size w.heap.size _ _ _ (D4.out.below ((Below.refl _ _).alloc (Nat.le_refl _) _)) _ 4 _ [108, 111, 115, 116] rfl ?hr1 (by simp; omega)).mono ?_
        case hr1 => exact RB_at w4 [108, 111, 115, 116] 5 _ _ rfl
        rintro e w5 ⟨v5, rfl, hd, hu, _⟩
        have D5 := Lib.hid hd
        have B5 := Lib.hid ((D4.out.below ((Below.refl _ _).alloc (Nat.le_refl _) _)).goes (B4.out.alloc B4.out.size _) hu)
        clear hd hu
        go_upto_if 50 with fail
        go_cut [9] (fun s9 wx => ∃ k : Nat, k ≤ 4 ∧ s9 = .int .i64 (k : Int) ∧ w5 = wx)
        case first =>
          by_cases hz : i < zs.length
          · obtain ⟨az, rfl, hcz⟩ := HZ.out (by omega)
            have hcell := cell_below B5.out (hcz i hz).1
            have hzb := (hcz i hz).2
            clear hcz
            go_wp2_with fail
            refine (within_any _ 0 4 _ (by omega) (by omega) (by omega) (by omega)).mono ?_
            rintro e w6 ⟨rfl, rfl⟩
            go_wp2_with fail
            go_meet
            have hw := withinOf_range zs[i] 0 4 (by omega)
            obtain ⟨q, hq⟩ := Int.eq_ofNat_of_zero_le hw.1
            exact ⟨q, by omega, by rw [hq], rfl⟩
          · go_wp2_with fail
            go_meet
            exact ⟨0, by omega, rfl, rfl⟩
        case rest =>
          obtain ⟨k, hk4, rfl, rfl⟩ := hcut
          go_wp2_with fail
          refine (diskCrash_any _ w.heap.size w.heap.size _ _ _ D5.out (k : Int) (by omega) (by omega)).mono ?_
          rintro e w6 ⟨v6, rfl, hd, hu, _⟩
          have e1 : crashLen ((b ++ x) ++ [108, 111, 115, 116]) (b ++ x).length k = (b ++ x).length + k := by unfold crashLen; simp; omega
          have e2 : ((b ++ x) ++ [108, 111, 115, 116]).take ((b ++ x).length + k) = (b ++ x) ++ ([108, 111, 115, 116] : List UInt8).take k := by rw [List.take_append, List.take_of_length_le (by omega)]; simp
          rw [e1, e2] at hd
          have D6 := Lib.hid hd
          have B6 := Lib.hid (D5.out.goes B5.out hu)
          clear hd hu e1 e2
          have hbx : (b ++ x).length ≤ 100 * (i + 1) := by simp; omega
          have HBX := Lib.hid (show (b ++ x).length = b.length + x.length by simp)
          have hsw2 : sw.size = (b ++ x).length := by rw [HSW.out]; simp
          have HSW2 := Lib.hid hsw2
          clear hsw2 HSW
          generalize hy : b ++ x = y at D6 EW hbx HSW2 HBX
          have HLY := Lib.hid hy
          clear hy
          have hsz : (([108, 111, 115, 116] : List UInt8).take k).length = k := by simp; omega
          obtain ⟨sl, z0, el, ez, hsl⟩ : ∃ sl z0 : ByteArray, sl = ⟨(([108, 111, 115, 116] : List UInt8).take k).toArray⟩ ∧ z0 = ⟨(y ++ ([108, 111, 115, 116] : List UInt8).take k).toArray⟩ ∧ sl.size = k :=
            ⟨_, _, rfl, rfl, by show (([108, 111, 115, 116] : List UInt8).take k).toArray.size = _; simp; omega⟩
          have hlost := lost_cut k hk4
          rw [← el] at hlost
          have hadd : ∀ w : World, (Op.stringOp .add sw sl).run Try.prog w = .ok (.string z0) w := fun w => by rw [run_string_add_sum (P := Try.prog) (w := w) sw sl (by have := HSW2.out; omega), EW.out, el, ez, bytes_append]
          have EZ := Lib.hid ez
          have HLO := Lib.hid hlost
          have HAD := Lib.hid hadd
          clear hlost hadd ez el hsl hsz
          go_upto_region 21 with fail
          go_cut [82] (fun s82 wx => s82 = .bool false ∧ ∃ v7, DiskAt wx w.heap.size w.heap.size v7 y y.length ∧ Below w.heap.size w wx)
          case first =>
            refine region_byL (RoundI w w6 v6 (y ++ ([108, 111, 115, 116] : List UInt8).take k) (y.length + k)) [(fun v _ => v = .pointer (some ⟨w.heap.size, 0, none⟩)), fun v w' => ∃ A6 c6, v = .slice A6 (y.length + k) c6 ∧ (∀ ad, A6 = some ad → w6.heap.size ≤ ad.block) ∧ RB w' A6 (y ++ ([108, 111, 115, 116] : List UInt8).take k), fun v _ => v = .string z0, (fun v _ => v = .string sw), (fun v _ => v = .int .i64 (k : Int)), (fun v _ => v = .string sl), (fun v _ => v = .string z0), (fun v _ => v = .bool false), (fun v _ => v = .bool false), (fun v _ => v = .pointer (some ⟨w.heap.size, 0, none⟩)), fun v _ => v = .int .i64 ((y.length + k : Nat) : Int), (fun v _ => v = .string sw), (fun v _ => v = .int .i64 (y.length : Int)), (fun v _ => v = .int .i64 (k : Int)), (fun v _ => v = .int .i64 ((y.length + k : Nat) : Int)), (fun v _ => v = .bool false), (fun v _ => v = .bool false), (fun v _ => v = .bool false), (fun v _ => v = .pointer (some ⟨w.heap.size, 0, none⟩)), (fun v _ => v = .string sw), (fun v _ => v = .int .i64 (y.length : Int)), fun v w' => v = .int .i64 0 ∧ ∃ v7, DiskAt w' w.heap.size w.heap.size v7 y y.length, (fun v _ => v = .bool false), (fun v _ => v = .bool false)] (by kernel_rfl) (by kernel_rfl) (by kernel_rfl) rfl (⟨B6.out.drew, Nat.le_refl _, fun _ => D6.out.drew⟩) ?ok21 ?fin21
            case ok21 =>
              refine ⟨?_, ?_, ?_, ?_, ?_, ?_, ?_, ?_, ?_, ?_, ?_, ?_, ?_, ?_, ?_, ?_, ?_, ?_, ?_, ?_, ?_, ?_, ?_, ?_, trivial⟩
              · intro l a' w' K hI hcl hsz hn hd hq hK
                have e5 : a'.eval (.tmp 5) = .pointer (some ⟨w.heap.size, 0, none⟩) := (hq 5 (by kernel_rfl)).trans rfl
                clear hd hq hcl hsz hn
                refine op_value (wanted_free _ _ (by rfl)) (v := .pointer (some ⟨w.heap.size, 0, none⟩)) (w'' := w') ?_ (hK _ _ (hI.set _) (fun _ _ h => h) rfl)
                clear hK
                simp only [execOp, e5]
                have f5 : a'.tmps[5]?.getD undef = .pointer (some ⟨w.heap.size, 0, none⟩) := (Array.getD_eq_getD_getElem? ..).symm.trans e5
                clear e5
                first | rfl | (go_simp <;> exact IntWalk.i64_in _ (by omega))
              · intro l a' w' K hI hcl hsz hn hd hq hK
                have e59 : a'.eval (.tmp 59) = .pointer (some ⟨w.heap.size, 0, none⟩) := (hd 0 59 (by kernel_rfl))
                clear hd hq
                have h21 : l.getD 21 false = false := hcl 21 17 (by kernel_rfl) (hcl 17 10 (by kernel_rfl) (hcl 10 8 (by kernel_rfl) (hcl 8 1 (by kernel_rfl) hn)))
                refine op_call #[.pointer (some ⟨w.heap.size, 0, none⟩)] (wanted_free _ _ (by rfl)) rfl Try.func24 (by kernel_rfl) rfl (by simp [e59]) ?_
                refine (diskBytes_any w' w.heap.size w.heap.size _ _ _ (hI.disk h21)).mono ?_
                rintro e w7 ⟨x, rfl, ho, hb⟩
                have hlen : (y ++ ([108, 111, 115, 116] : List UInt8).take k).length = y.length + k := by simp; omega
                rw [hlen] at ho
                obtain ⟨A6, c6, rfl, _⟩ := own_slice ho
                have hI2 : RoundI w w6 v6 (y ++ ([108, 111, 115, 116] : List UInt8).take k) (y.length + k) l w7 := ⟨below_below hI.below hI.below.size hb, Nat.le_trans hI.size hb.size, fun h => (hI.disk h).below hb⟩
                refine ⟨_, rfl, hK _ _ (hI2.set _) (fun j u => by match j with | 1 => exact fun ⟨A6, c6, h1, h2, h3⟩ => ⟨A6, c6, h1, h2, h3.below hb⟩ | 21 => exact fun ⟨h1, v7, h2⟩ => ⟨h1, v7, h2.below hb⟩ | 0 | 2 | 3 | 4 | 5 | 6 | 7 | 8 | 9 | 10 | 11 | 12 | 13 | 14 | 15 | 16 | 17 | 18 | 19 | 20 | 22 | 23 => exact fun h => h | _ + 24 => exact fun _ => trivial) ⟨A6, c6, rfl, fun ad e => ?_, (own_RC ho).bytes⟩⟩
                have h3 := (ho.lt ad.block (by rw [e]; rfl)).1
                have := hI.size
                omega
              · intro l a' w' K hI hcl hsz hn hd hq hK
                have e60 := hd 1 60 (by kernel_rfl)
                clear hd hq
                obtain ⟨A6, c6, e60, _, hr6⟩ := (show ∃ A6 c6, a'.eval (.tmp 60) = .slice A6 (y.length + k) c6 ∧ (∀ ad, A6 = some ad → w6.heap.size ≤ ad.block) ∧ RB w' A6 (y ++ ([108, 111, 115, 116] : List UInt8).take k) from e60)
                refine op_value (wanted_free _ _ (by rfl)) (v := .string z0) (w'' := w') ?_ (hK _ _ (hI.set _) (fun _ _ h => h) rfl)
                simp only [execOp, e60]
                have hst := run_string_RB (P := Try.prog) w' 22 9 5 Try.underlying22 Try.underlying5 Try.underlying9 A6 (y.length + k) c6 (y ++ ([108, 111, 115, 116] : List UInt8).take k) (by simp; omega) hr6
                rw [← EZ.out] at hst
                clear e60 hK hr6 hI hcl hsz hn
                go_simp
              · intro l a' w' K hI hcl hsz hn hd hq hK
                have e6 : a'.eval (.tmp 6) = .string sw := (hq 6 (by kernel_rfl)).trans rfl
                clear hd hq hcl hsz hn
                refine op_value (wanted_free _ _ (by rfl)) (v := .string sw) (w'' := w') ?_ (hK _ _ (hI.set _) (fun _ _ h => h) rfl)
                clear hK
                simp only [execOp, e6]
                have f6 : a'.tmps[6]?.getD undef = .string sw := (Array.getD_eq_getD_getElem? ..).symm.trans e6
                clear e6
                first | rfl | (go_simp <;> exact IntWalk.i64_in _ (by omega))
              · intro l a' w' K hI hcl hsz hn hd hq hK
                have e9 : a'.eval (.tmp 9) = .int .i64 (k : Int) := (hq 9 (by kernel_rfl)).trans rfl
                clear hd hq hcl hsz hn
                refine op_value (wanted_free _ _ (by rfl)) (v := .int .i64 (k : Int)) (w'' := w') ?_ (hK _ _ (hI.set _) (fun _ _ h => h) rfl)
                clear hK
                simp only [execOp, e9]
                have f9 : a'.tmps[9]?.getD undef = .int .i64 (k : Int) := (Array.getD_eq_getD_getElem? ..).symm.trans e9
                clear e9
                first | rfl | (go_simp <;> exact IntWalk.i64_in _ (by omega))
              · intro l a' w' K hI hcl hsz hn hd hq hK
                have e63 : a'.eval (.tmp 63) = .int .i64 (k : Int) := (hd 4 63 (by kernel_rfl))
                clear hd hq hcl hsz hn
                have hlost := HLO.out
                refine op_value (wanted_free _ _ (by rfl)) (v := .string sl) (w'' := w') ?_ (hK _ _ (hI.set _) (fun _ _ h => h) rfl)
                clear hK
                simp only [execOp, e63]
                have f63 : a'.tmps[63]?.getD undef = .int .i64 (k : Int) := (Array.getD_eq_getD_getElem? ..).symm.trans e63
                clear e63
                first | rfl | (go_simp <;> exact IntWalk.i64_in _ (by omega))
              · intro l a' w' K hI hcl hsz hn hd hq hK
                have e62 : a'.eval (.tmp 62) = .string sw := (hd 3 62 (by kernel_rfl))
                have e64 : a'.eval (.tmp 64) = .string sl := (hd 5 64 (by kernel_rfl))
                clear hd hq hcl hsz hn
                have hadd := HAD.out
                refine op_value (wanted_free _ _ (by rfl)) (v := .string z0) (w'' := w') ?_ (hK _ _ (hI.set _) (fun _ _ h => h) rfl)
                clear hK
                simp only [execOp, e62, e64]
                have f62 : a'.tmps[62]?.getD undef = .string sw := (Array.getD_eq_getD_getElem? ..).symm.trans e62
                have f64 : a'.tmps[64]?.getD undef = .string sl := (Array.getD_eq_getD_getElem? ..).symm.trans e64
                clear e62 e64
                first | rfl | (go_simp <;> exact IntWalk.i64_in _ (by omega))
              · intro l a' w' K hI hcl hsz hn hd hq hK
                have e61 : a'.eval (.tmp 61) = .string z0 := (hd 2 61 (by kernel_rfl))
                have e65 : a'.eval (.tmp 65) = .string z0 := (hd 6 65 (by kernel_rfl))
                clear hd hq hcl hsz hn
                refine op_value (wanted_free _ _ (by rfl)) (v := .bool false) (w'' := w') ?_ (hK _ _ (hI.set _) (fun _ _ h => h) rfl)
                clear hK
                simp only [execOp, e61, e65]
                have f61 : a'.tmps[61]?.getD undef = .string z0 := (Array.getD_eq_getD_getElem? ..).symm.trans e61
                have f65 : a'.tmps[65]?.getD undef = .string z0 := (Array.getD_eq_getD_getElem? ..).symm.trans e65
                clear e61 e65
                first | rfl | (go_simp <;> exact IntWalk.i64_in _ (by omega))
              · intro l a' w' K hI hcl hsz hn hd hq hK
                have e66 : a'.eval (.tmp 66) = .bool false := (hd 7 66 (by kernel_rfl))
                clear hd hq hcl hsz hn
                refine op_value (wanted_free _ _ (by rfl)) (v := .bool false) (w'' := w') ?_ (hK _ _ (hI.set _) (fun _ _ h => h) rfl)
                clear hK
                simp only [execOp, e66]
                have f66 : a'.tmps[66]?.getD undef = .bool false := (Array.getD_eq_getD_getElem? ..).symm.trans e66
                clear e66
                first | rfl | (go_simp <;> exact IntWalk.i64_in _ (by omega))
              · intro l a' w' K hI hcl hsz hn hd hq hK
                have hg := hd 8 67 (by kernel_rfl)
                have e5 : a'.eval (.tmp 5) = .pointer (some ⟨w.heap.size, 0, none⟩) := (hq 5 (by kernel_rfl)).trans rfl
                clear hd hq hcl hsz hn
                refine op_value (wanted_on _ a' 8 67 false (by rfl) (by rfl) hg) (v := .pointer (some ⟨w.heap.size, 0, none⟩)) (w'' := w') ?_ (hK _ _ (hI.set _) (fun _ _ h => h) rfl)
                clear hK
                simp only [execOp, e5]
                have f5 : a'.tmps[5]?.getD undef = .pointer (some ⟨w.heap.size, 0, none⟩) := (Array.getD_eq_getD_getElem? ..).symm.trans e5
                clear e5
                first | rfl | (go_simp <;> exact IntWalk.i64_in _ (by omega))
              · intro l a' w' K hI hcl hsz hn hd hq hK
                have hg := hd 8 67 (by kernel_rfl)
                have e68 : a'.eval (.tmp 68) = .pointer (some ⟨w.heap.size, 0, none⟩) := (hd 9 68 (by kernel_rfl))
                clear hd hq
                have h21 : l.getD 21 false = false := hcl 21 17 (by kernel_rfl) (hcl 17 10 (by kernel_rfl) hn)
                refine op_call #[.pointer (some ⟨w.heap.size, 0, none⟩)] (wanted_on _ a' 8 67 false (by rfl) (by rfl) hg) rfl Try.func25 (by kernel_rfl) rfl (by simp [e68]) ?_
                refine (diskSafe_any w' w.heap.size w.heap.size _ _ _ (hI.disk h21)).mono ?_
                rintro e w8 ⟨rfl, rfl⟩
                exact ⟨_, rfl, hK _ _ (hI.set _) (fun _ _ h => h) rfl⟩
              · intro l a' w' K hI hcl hsz hn hd hq hK
                have hg := hd 8 67 (by kernel_rfl)
                have e6 : a'.eval (.tmp 6) = .string sw := (hq 6 (by kernel_rfl)).trans rfl
                clear hd hq hcl hsz hn
                refine op_value (wanted_on _ a' 8 67 false (by rfl) (by rfl) hg) (v := .string sw) (w'' := w') ?_ (hK _ _ (hI.set _) (fun _ _ h => h) rfl)
                clear hK
                simp only [execOp, e6]
                have f6 : a'.tmps[6]?.getD undef = .string sw := (Array.getD_eq_getD_getElem? ..).symm.trans e6
                clear e6
                first | rfl | (go_simp <;> exact IntWalk.i64_in _ (by omega))
              · intro l a' w' K hI hcl hsz hn hd hq hK
                have hg := hd 8 67 (by kernel_rfl)
                have e70 : a'.eval (.tmp 70) = .string sw := (hd 11 70 (by kernel_rfl))
                clear hd hq hcl hsz hn
                have hsw := HSW2.out
                refine op_value (wanted_on _ a' 8 67 false (by rfl) (by rfl) hg) (v := .int .i64 (y.length : Int)) (w'' := w') ?_ (hK _ _ (hI.set _) (fun _ _ h => h) rfl)
                clear hK
                simp only [execOp, e70]
                have f70 : a'.tmps[70]?.getD undef = .string sw := (Array.getD_eq_getD_getElem? ..).symm.trans e70
                clear e70
                first | rfl | (go_simp <;> exact IntWalk.i64_in _ (by omega))
              · intro l a' w' K hI hcl hsz hn hd hq hK
                have hg := hd 8 67 (by kernel_rfl)
                have e9 : a'.eval (.tmp 9) = .int .i64 (k : Int) := (hq 9 (by kernel_rfl)).trans rfl
                clear hd hq hcl hsz hn
                refine op_value (wanted_on _ a' 8 67 false (by rfl) (by rfl) hg) (v := .int .i64 (k : Int)) (w'' := w') ?_ (hK _ _ (hI.set _) (fun _ _ h => h) rfl)
                clear hK
                simp only [execOp, e9]
                have f9 : a'.tmps[9]?.getD undef = .int .i64 (k : Int) := (Array.getD_eq_getD_getElem? ..).symm.trans e9
                clear e9
                first | rfl | (go_simp <;> exact IntWalk.i64_in _ (by omega))
              · intro l a' w' K hI hcl hsz hn hd hq hK
                have hg := hd 8 67 (by kernel_rfl)
                have e71 : a'.eval (.tmp 71) = .int .i64 (y.length : Int) := (hd 12 71 (by kernel_rfl))
                have e72 : a'.eval (.tmp 72) = .int .i64 (k : Int) := (hd 13 72 (by kernel_rfl))
                clear hd hq hcl hsz hn
                refine op_value (wanted_on _ a' 8 67 false (by rfl) (by rfl) hg) (v := .int .i64 ((y.length + k : Nat) : Int)) (w'' := w') ?_ (hK _ _ (hI.set _) (fun _ _ h => h) rfl)
                clear hK
                simp only [execOp, e71, e72]
                have f71 : a'.tmps[71]?.getD undef = .int .i64 (y.length : Int) := (Array.getD_eq_getD_getElem? ..).symm.trans e71
                have f72 : a'.tmps[72]?.getD undef = .int .i64 (k : Int) := (Array.getD_eq_getD_getElem? ..).symm.trans e72
                clear e71 e72
                first | rfl | (go_simp <;> exact IntWalk.i64_in _ (by omega))
              · intro l a' w' K hI hcl hsz hn hd hq hK
                have hg := hd 8 67 (by kernel_rfl)
                have e69 : a'.eval (.tmp 69) = .int .i64 ((y.length + k : Nat) : Int) := (hd 10 69 (by kernel_rfl))
                have e73 : a'.eval (.tmp 73) = .int .i64 ((y.length + k : Nat) : Int) := (hd 14 73 (by kernel_rfl))
                clear hd hq hcl hsz hn
                refine op_value (wanted_on _ a' 8 67 false (by rfl) (by rfl) hg) (v := .bool false) (w'' := w') ?_ (hK _ _ (hI.set _) (fun _ _ h => h) rfl)
                clear hK
                simp only [execOp, e69, e73]
                have f69 : a'.tmps[69]?.getD undef = .int .i64 ((y.length + k : Nat) : Int) := (Array.getD_eq_getD_getElem? ..).symm.trans e69
                have f73 : a'.tmps[73]?.getD undef = .int .i64 ((y.length + k : Nat) : Int) := (Array.getD_eq_getD_getElem? ..).symm.trans e73
                clear e69 e73
                first | rfl | (go_simp <;> exact IntWalk.i64_in _ (by omega))
              · intro l a' w' K hI hcl hsz hn hd hq hK
                have e67 : a'.eval (.tmp 67) = .bool false := (hd 8 67 (by kernel_rfl))
                have e74 : a'.eval (.tmp 74) = .bool false := (hd 15 74 (by kernel_rfl))
                clear hd hq hcl hsz hn
                refine op_value (wanted_free _ _ (by rfl)) (v := .bool false) (w'' := w') ?_ (hK _ _ (hI.set _) (fun _ _ h => h) rfl)
                clear hK
                simp only [execOp, e67, e74]
                have f67 : a'.tmps[67]?.getD undef = .bool false := (Array.getD_eq_getD_getElem? ..).symm.trans e67
                have f74 : a'.tmps[74]?.getD undef = .bool false := (Array.getD_eq_getD_getElem? ..).symm.trans e74
                clear e67 e74
                first | rfl | (go_simp <;> exact IntWalk.i64_in _ (by omega))
              · intro l a' w' K hI hcl hsz hn hd hq hK
                have e75 : a'.eval (.tmp 75) = .bool false := (hd 16 75 (by kernel_rfl))
                clear hd hq hcl hsz hn
                refine op_value (wanted_free _ _ (by rfl)) (v := .bool false) (w'' := w') ?_ (hK _ _ (hI.set _) (fun _ _ h => h) rfl)
                clear hK
                simp only [execOp, e75]
                have f75 : a'.tmps[75]?.getD undef = .bool false := (Array.getD_eq_getD_getElem? ..).symm.trans e75
                clear e75
                first | rfl | (go_simp <;> exact IntWalk.i64_in _ (by omega))
              · intro l a' w' K hI hcl hsz hn hd hq hK
                have hg := hd 17 76 (by kernel_rfl)
                have e5 : a'.eval (.tmp 5) = .pointer (some ⟨w.heap.size, 0, none⟩) := (hq 5 (by kernel_rfl)).trans rfl
                clear hd hq hcl hsz hn
                refine op_value (wanted_on _ a' 17 76 false (by rfl) (by rfl) hg) (v := .pointer (some ⟨w.heap.size, 0, none⟩)) (w'' := w') ?_ (hK _ _ (hI.set _) (fun _ _ h => h) rfl)
                clear hK
                simp only [execOp, e5]
                have f5 : a'.tmps[5]?.getD undef = .pointer (some ⟨w.heap.size, 0, none⟩) := (Array.getD_eq_getD_getElem? ..).symm.trans e5
                clear e5
                first | rfl | (go_simp <;> exact IntWalk.i64_in _ (by omega))
              · intro l a' w' K hI hcl hsz hn hd hq hK
                have hg := hd 17 76 (by kernel_rfl)
                have e6 : a'.eval (.tmp 6) = .string sw := (hq 6 (by kernel_rfl)).trans rfl
                clear hd hq hcl hsz hn
                refine op_value (wanted_on _ a' 17 76 false (by rfl) (by rfl) hg) (v := .string sw) (w'' := w') ?_ (hK _ _ (hI.set _) (fun _ _ h => h) rfl)
                clear hK
                simp only [execOp, e6]
                have f6 : a'.tmps[6]?.getD undef = .string sw := (Array.getD_eq_getD_getElem? ..).symm.trans e6
                clear e6
                first | rfl | (go_simp <;> exact IntWalk.i64_in _ (by omega))
              · intro l a' w' K hI hcl hsz hn hd hq hK
                have hg := hd 17 76 (by kernel_rfl)
                have e78 : a'.eval (.tmp 78) = .string sw := (hd 19 78 (by kernel_rfl))
                clear hd hq hcl hsz hn
                have hsw := HSW2.out
                refine op_value (wanted_on _ a' 17 76 false (by rfl) (by rfl) hg) (v := .int .i64 (y.length : Int)) (w'' := w') ?_ (hK _ _ (hI.set _) (fun _ _ h => h) rfl)
                clear hK
                simp only [execOp, e78]
                have f78 : a'.tmps[78]?.getD undef = .string sw := (Array.getD_eq_getD_getElem? ..).symm.trans e78
                clear e78
                first | rfl | (go_simp <;> exact IntWalk.i64_in _ (by omega))
              · intro l a' w' K hI hcl hsz hn hd hq hK
                have hg := hd 17 76 (by kernel_rfl)
                have e77 : a'.eval (.tmp 77) = .pointer (some ⟨w.heap.size, 0, none⟩) := (hd 18 77 (by kernel_rfl))
                have e79 : a'.eval (.tmp 79) = .int .i64 (y.length : Int) := (hd 20 79 (by kernel_rfl))
                clear hd hq
                have hD := hI.disk hn
                refine op_call #[.pointer (some ⟨w.heap.size, 0, none⟩), .int .i64 (y.length : Int)] (wanted_on _ a' 17 76 false (by rfl) (by rfl) hg) rfl Try.func27 (by kernel_rfl) rfl (by simp [e77, e79]) ?_
                refine (diskCut_any w' w.heap.size w.heap.size _ _ _ hD y.length (by simp)).mono ?_
                rintro e w8 ⟨v8, rfl, hd, hu, _⟩
                have hd8 : DiskAt w8 w.heap.size w.heap.size v8 y y.length := by
                  have e1 : (y ++ ([108, 111, 115, 116] : List UInt8).take k).take y.length = y := by simp
                  have e2 : min (y.length + k) y.length = y.length := by omega
                  rw [e1, e2] at hd
                  exact hd
                have hfl := D6.out.foot_lt
                refine ⟨_, rfl, hK _ _ ⟨hD.goes hI.below hu, Nat.le_trans hI.size hu.size, fun h => ?_⟩ (fun j u => by match j with | 1 => exact fun ⟨A6, c6, h1, h2, h3⟩ => ⟨A6, c6, h1, h2, (h3.cells.upd hu (fun _ ad e hf => by have := hfl _ hf; have := h2 ad e; omega)).bytes⟩ | 21 => exact fun ⟨h1, _, _⟩ => ⟨h1, v8, hd8⟩ | 0 | 2 | 3 | 4 | 5 | 6 | 7 | 8 | 9 | 10 | 11 | 12 | 13 | 14 | 15 | 16 | 17 | 18 | 19 | 20 | 22 | 23 => exact fun h => h | _ + 24 => exact fun _ => trivial) ⟨rfl, v8, hd8⟩⟩
                exfalso
                rw [Array.getD_eq_getD_getElem?, Array.getElem?_setIfInBounds, if_pos rfl, if_pos (by rw [hsz]; exact of_decide_eq_true (by kernel_rfl))] at h
                simp at h
              · intro l a' w' K hI hcl hsz hn hd hq hK
                have hg := hd 17 76 (by kernel_rfl)
                have e80 : a'.eval (.tmp 80) = .int .i64 0 := (hd 21 80 (by kernel_rfl)).1
                clear hd hq hcl hsz hn
                refine op_value (wanted_on _ a' 17 76 false (by rfl) (by rfl) hg) (v := .bool false) (w'' := w') ?_ (hK _ _ (hI.set _) (fun _ _ h => h) rfl)
                clear hK
                simp only [execOp, e80]
                have f80 : a'.tmps[80]?.getD undef = .int .i64 0 := (Array.getD_eq_getD_getElem? ..).symm.trans e80
                clear e80
                first | rfl | (go_simp <;> exact IntWalk.i64_in _ (by omega))
              · intro l a' w' K hI hcl hsz hn hd hq hK
                have e76 : a'.eval (.tmp 76) = .bool false := (hd 17 76 (by kernel_rfl))
                have e81 : a'.eval (.tmp 81) = .bool false := (hd 22 81 (by kernel_rfl))
                clear hd hq hcl hsz hn
                refine op_value (wanted_free _ _ (by rfl)) (v := .bool false) (w'' := w') ?_ (hK _ _ (hI.set _) (fun _ _ h => h) rfl)
                clear hK
                simp only [execOp, e76, e81]
                have f76 : a'.tmps[76]?.getD undef = .bool false := (Array.getD_eq_getD_getElem? ..).symm.trans e76
                have f81 : a'.tmps[81]?.getD undef = .bool false := (Array.getD_eq_getD_getElem? ..).symm.trans e81
                clear e76 e81
                first | rfl | (go_simp <;> exact IntWalk.i64_in _ (by omega))
            case fin21 =>
              rintro l w' hsz hall hI _ rfl _ ⟨A6, c6, rfl, _⟩ _ rfl _ rfl _ rfl _ rfl _ rfl _ rfl _ rfl _ rfl _ rfl _ rfl _ rfl _ rfl _ rfl _ rfl _ rfl _ rfl _ rfl _ rfl _ rfl _ ⟨rfl, v7, hd7⟩ _ rfl _ rfl
              simp only [Act.put, List.setIfInBounds_toArray, List.set_cons_zero, List.set_cons_succ, FinGoal]
              go_wp2_with fail
              go_meet
              exact ⟨rfl, v7, hd7, hI.below⟩
          case rest =>
            obtain ⟨rfl, v7, hd, hb⟩ := hcut
            have D7 := Lib.hid hd
            have B7 := Lib.hid hb
            clear hd hb
            go_wp2
            go_roundg (12 - (i + 1))
            case measure => have := HK.out; omega
            case rel => exact ⟨i + 1, v7, y, by omega, by omega, rfl, by go_num, by rw [EW.out], hbx, D7.out, B7.out⟩
    · have hd2 : ¬ (i < L.length) ∨ ¬ (i < 12) := by omega
      by_cases hA : i < L.length
      · have h12 : decide ((i : Int) < 12) = false := by simp; omega
        obtain ⟨sb, eb⟩ : ∃ sb : ByteArray, sb = ⟨b.toArray⟩ := ⟨_, rfl⟩
        rw [← eb]
        have EB := Lib.hid eb
        clear eb hd2 hlt
        go_wp2_with fail
        refine (diskBytes_any _ w.heap.size w.heap.size _ _ _ D2.out).mono ?_
        rintro e w3 ⟨xx, rfl, ho, hb⟩
        obtain ⟨A6, c6, rfl, _⟩ := own_slice ho
        have hst := run_string_RB (P := Try.prog) w3 22 9 5 Try.underlying22 Try.underlying5 Try.underlying9 A6 _ c6 _ rfl (own_RC ho).bytes
        rw [← EB.out] at hst
        have B3 := Lib.hid (below_below B2.out B2.out.size hb)
        clear ho hb
        go_wp2_with fail
        refine (known4_any _).mono ?_
        rintro e w4 ⟨rfl, hb⟩
        have B4 := Lib.hid (below_below B3.out B3.out.size hb)
        clear hb
        go_wp2_with fail
        go_ret
        exact ⟨rfl, B4.out⟩
      · have hA' : decide ((i : Int) < (L.length : Int)) = false := by simp; omega
        obtain ⟨sb, eb⟩ : ∃ sb : ByteArray, sb = ⟨b.toArray⟩ := ⟨_, rfl⟩
        rw [← eb]
        have EB := Lib.hid eb
        clear eb hd2 hlt
        go_wp2_with fail
        refine (diskBytes_any _ w.heap.size w.heap.size _ _ _ D2.out).mono ?_
        rintro e w3 ⟨xx, rfl, ho, hb⟩
        obtain ⟨A6, c6, rfl, _⟩ := own_slice ho
        have hst := run_string_RB (P := Try.prog) w3 22 9 5 Try.underlying22 Try.underlying5 Try.underlying9 A6 _ c6 _ rfl (own_RC ho).bytes
        rw [← EB.out] at hst
        have B3 := Lib.hid (below_below B2.out B2.out.size hb)
        clear ho hb
        go_wp2_with fail
        refine (known4_any _).mono ?_
        rintro e w4 ⟨rfl, hb⟩
        have B4 := Lib.hid (below_below B3.out B3.out.size hb)
        clear hb
        go_wp2_with fail
        go_ret
        exact ⟨rfl, B4.out⟩
end Go.Proofs.Ytiefgnmekikckaa
