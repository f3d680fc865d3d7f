/-
  The walk of the law DiskKept.
-/
import Derived.Test.YtiefgnmekikckaaKnown4
import Derived.Test.YtiefgnmekikckaaOutline
set_option linter.unusedVariables false
set_option linter.unusedSimpArgs false
namespace Go.Proofs.Ytiefgnmekikckaa
open Go.RowKit

/-- What the loop that turns the bytes of one's own row keeps. -/
def KeptRel (w : World) (v2 : Value) (l1 : List UInt8) (n : Nat) (v : Value) (wr : World) : Prop :=
  ∃ l' : List UInt8, l'.length = n ∧ wr.ownsRow w.heap.size 5 1 v n (bv l') ∧ DiskAt wr w.heap.size w.heap.size v2 l1 0 ∧ Below w.heap.size w wr

theorem KeptRel.set {w : World} {v2 : Value} {l1 : List UInt8} {n g c : Nat} {wr : World} (h : KeptRel w v2 l1 n (.slice (some ⟨g, 0, none⟩) n c) wr) (hne : ¬ DiskAt.foot w.heap.size v2 g) (hg : w.heap.size ≤ g) (k : Nat) (y : UInt8) :
    KeptRel w v2 l1 n (.slice (some ⟨g, 0, none⟩) n c) (wr.setCell ⟨g, k, none⟩ (.int .u8 (un8 y))) := by
  obtain ⟨l', hl, ho, hd, hb⟩ := h
  refine ⟨l'.set k y, by simpa using hl, own_store ho k y, ?_, hb.setCell hg _⟩
  exact hd.upd ((Upd.refl (fun j => j = g) wr).setCell (fun _ => rfl) _) (fun e => hne (.inl e.symm)) (fun j hj e => hne (.inr (by rw [hj, e])))

set_option maxRecDepth 10000 in
set_option maxHeartbeats 4000000 in
theorem diskKept_any (A : Option Addr) (n c : Nat) (a : List UInt8) (w : World) (hl : a.length = n) (hnc : n ≤ c) (hcm : c ≤ maxLen) (hr : RB w A a) :
    Calls Try.prog 6 #[.slice A n c] w fun e w' => e = .returned (.bool true) ∧ Below w.heap.size w w' := by
  subst hl
  unfold maxLen at hcm
  have HRa := Lib.hid hr
  clear hr
  go_enter Try.func6, Try.ntmps6
  go_wp2_with fail
  refine (diskNew_any _).mono ?_
  rintro e w1 ⟨rfl, hd, hb⟩
  have D1 := Lib.hid hd
  have B1 := Lib.hid hb
  clear hd hb
  go_upto_if 13 with fail
  go_cut [0] (fun s0 wx => ∃ (m : Nat) (l1 : List UInt8), l1.length = m ∧ m ≤ 500 ∧ m ≤ c ∧ RB w A l1 ∧ s0 = .slice A m c ∧ w1 = wx)
  case first =>
    go_wp2_with fail
    · go_meet
      exact ⟨500, a.take 500, by simp; omega, by omega, by omega, RB_take HRa.out _, rfl, rfl⟩
    · go_meet
      exact ⟨a.length, a, rfl, by omega, by omega, HRa.out, rfl, rfl⟩
  case rest =>
    obtain ⟨m, l1, hl1, hm, hmc, hr1, rfl, rfl⟩ := hcut
    subst hl1
    have HR1 := Lib.hid hr1
    clear hr1 HRa
    have hz1 := B1.out.size
    go_wp2_with (at_builtin; refine append_bytes rfl _ _ 22 rfl w.heap.size 5 Try.underlying22 info8 _ [] rfl (World.ownsRow_lit w1 #[] 0 hz1 (by simp [maxLen]) rfl) _ _ _ l1 rfl rfl (HR1.out.below (B1.out.alloc hz1 _)) ?c1 ?c2 ?_)
    case c1 => simp; omega
    case c2 => simp; omega
    intro v w2 ho hg hat
    have D2 := Lib.hid ((D1.out.below ((Below.refl _ _).alloc (Nat.le_refl _) _)).upd (F := fun k => k = w1.heap.size) ⟨hg.os, hg.tape, hg.output, hg.size, fun k hk hn => hg.block k hk (by simp [Value.ownBlock]; exact hn)⟩ (by have := D1.out.lt; omega) (fun k hk => by simp [Value.ownBlock] at hk))
    have B2 := Lib.hid ((B1.out.alloc hz1 _).grown hg (by simp; omega) (fun k hk => by simp [Value.ownBlock] at hk; omega))
    have hvk : ∀ k, v.ownBlock = some k → w.heap.size < k ∧ k < w2.heap.size := by
      intro k hk
      refine ⟨?_, (ho.lt k hk).2⟩
      have h0 := D1.out.lt
      have h3 := hg.size
      simp at h3
      rcases hat with h | h
      · rw [h] at hk; simp [Value.ownBlock] at hk; omega
      · rw [h] at hk; simp at hk; omega
    have HV := Lib.hid hvk
    have HO := Lib.hid (show w2.ownsRow w.heap.size 5 1 v l1.length (bv l1) by simpa using ho)
    clear ho hg hat hvk
    obtain ⟨Av, cv, rfl, hcv⟩ := own_slice HO.out
    go_wp2_with fail
    refine (diskAppend_any _ w.heap.size w.heap.size _ [] 0 D2.out Av l1.length cv l1 rfl (own_RC HO.out).bytes (by simp; omega)).mono ?_
    rintro e w3 ⟨v3, rfl, hd, hu, hat3⟩
    have D3 := Lib.hid (show DiskAt w3 w.heap.size w.heap.size v3 l1 0 from hd)
    have B3 := Lib.hid (D2.out.goes B2.out hu)
    have HO3 := Lib.hid (own_upd HO.out hu (fun k hk hf => by
      have h1 := HV.out k hk
      rcases hf with rfl | hf
      · omega
      · simp [Value.ownBlock] at hf))
    have HF := Lib.hid (show ∀ k, (Value.slice Av l1.length cv).ownBlock = some k → ¬ DiskAt.foot w.heap.size v3 k by
      intro k hk hf
      have h1 := HV.out k hk
      rcases hf with rfl | hf
      · omega
      · rcases hat3 with h | h
        · rw [h] at hf; simp [Value.ownBlock] at hf
        · rw [h] at hf; simp at hf; omega)
    clear hd hu hat3
    have HK := Lib.hid (show KeptRel w v3 l1 l1.length (.slice Av l1.length cv) w3 from ⟨l1, rfl, HO3.out, D3.out, B3.out⟩)
    go_wp2_with fail
    go_loopg [5] l1.length (fun k s5 wr => ∃ i : Nat, i ≤ l1.length ∧ k = l1.length - i ∧ s5 = .int .i64 (i : Int) ∧ KeptRel w v3 l1 l1.length (.slice Av l1.length cv) wr)
    case atStart => exact ⟨0, Nat.zero_le _, by omega, rfl, HK.out⟩
    case round =>
      obtain ⟨i, hi, hk, rfl, hrl⟩ := hrel
      have HG := Lib.hid hk
      have HR := Lib.hid hrl
      clear hk hrl HK
      by_cases hlt : i < l1.length
      · obtain ⟨l', hl', ho', hd', hb'⟩ := HR.out
        obtain ⟨g, cg, eg, hbg, _⟩ := own_form ho' (by omega)
        cases eg
        have hcell := own_byte ho' i (by omega)
        have hfro := ho'.frozenAt i
        obtain ⟨y, hy⟩ := un8_add (l'[i]'(by omega)) 1
        have HY := Lib.hid hy
        clear ho' hd' hb' hy
        go_wp2
        rw [HY.out]
        go_roundg (l1.length - (i + 1))
        case measure => have := HG.out; omega
        case rel => exact ⟨i + 1, by omega, rfl, by go_num, HR.out.set (HF.out g rfl) hbg i y⟩
      · obtain rfl : i = l1.length := by omega
        obtain ⟨l', hl', ho', hd', hb'⟩ := HR.out
        have D4 := Lib.hid hd'
        have B4 := Lib.hid hb'
        clear hd' hb' ho' HR
        go_wp2_with fail
        refine (diskBytes_any wr w.heap.size w.heap.size _ _ _ D4.out).mono ?_
        rintro e w5 ⟨x, rfl, ho, hb⟩
        have HX := Lib.hid ho
        have D5 := Lib.hid (D4.out.below hb)
        have B5 := Lib.hid (below_below B4.out B4.out.size hb)
        have hz4 := B4.out.size
        obtain ⟨Ax, cx, rfl, hcx⟩ := own_slice ho
        have HF5 := Lib.hid (show ∀ k, (Value.slice Ax l1.length cx).ownBlock = some k → ¬ DiskAt.foot w.heap.size v3 k by
          intro k hk hf
          have h1 := (HX.out.lt k hk).1
          have h2 := D4.out.foot_lt k hf
          omega)
        have HK5 := Lib.hid (show KeptRel w v3 l1 l1.length (.slice Ax l1.length cx) w5 from ⟨l1, rfl, own_lower HX.out hz4, D5.out, B5.out⟩)
        clear ho hb
        go_wp2_with fail
        go_loopg [7] l1.length (fun k s7 wr => ∃ i : Nat, i ≤ l1.length ∧ k = l1.length - i ∧ s7 = .int .i64 (i : Int) ∧ KeptRel w v3 l1 l1.length (.slice Ax l1.length cx) wr)
        case atStart => exact ⟨0, Nat.zero_le _, by omega, rfl, HK5.out⟩
        case round =>
          obtain ⟨i, hi2, hk, rfl, hrl⟩ := hrel
          have HG2 := Lib.hid hk
          have HR2 := Lib.hid hrl
          clear hk hrl HK5
          by_cases hlt2 : i < l1.length
          · obtain ⟨l', hl', ho', hd', hb'⟩ := HR2.out
            obtain ⟨g, cg, eg, hbg, _⟩ := own_form ho' (by omega)
            cases eg
            have hcell := own_byte ho' i (by omega)
            have hfro := ho'.frozenAt i
            obtain ⟨y, hy⟩ := un8_add (l'[i]'(by omega)) 2
            have HY := Lib.hid hy
            clear ho' hd' hb' hy
            go_wp2
            rw [HY.out]
            go_roundg (l1.length - (i + 1))
            case measure => have := HG2.out; omega
            case rel => exact ⟨i + 1, by omega, rfl, by go_num, HR2.out.set (HF5.out g rfl) hbg i y⟩
          · obtain rfl : i = l1.length := by omega
            obtain ⟨l', hl', ho', hd', hb'⟩ := HR2.out
            have D6 := Lib.hid hd'
            have B6 := Lib.hid hb'
            clear hd' hb' ho' HR2
            obtain ⟨z0, ez⟩ : ∃ z0 : ByteArray, z0 = ⟨l1.toArray⟩ := ⟨_, rfl⟩
            have EZ := Lib.hid ez
            clear ez
            go_wp2_with fail
            refine region_by (fun w' => Below wr.heap.size wr w') [(fun v _ => v = .slice Ax l1.length cx), (fun v _ => v = .int .i64 (l1.length : Int)), (fun v _ => v = .slice A l1.length c), (fun v _ => v = .int .i64 (l1.length : Int)), (fun v _ => v = (.bool true)), (fun v _ => v = (.bool true)), (fun v _ => v = .pointer (some ⟨w.heap.size, 0, none⟩)), fun v w' => ∃ A6 c6, v = .slice A6 l1.length c6 ∧ RB w' A6 l1, fun v _ => v = .string z0, (fun v _ => v = .slice A l1.length c), fun v _ => v = .string z0, (fun v _ => v = (.bool true)), (fun v _ => v = (.bool true)), (fun v _ => v = (.bool true)), fun v _ => v = .bool true, (fun v _ => v = (.bool true)), (fun v _ => v = (.bool true))] (by kernel_rfl) (by kernel_rfl) (by kernel_rfl) rfl ((Below.refl _ _).drew) ?ok17 ?fin17
            case ok17 =>
              refine ⟨?_, ?_, ?_, ?_, ?_, ?_, ?_, ?_, ?_, ?_, ?_, ?_, ?_, ?_, ?_, ?_, ?_, trivial⟩
              · intro a' w' K hI hd hq hK
                have e6 : a'.eval (.tmp 6) = .slice Ax l1.length cx := (hq 6 (by kernel_rfl)).trans rfl
                clear hd hq
                refine op_value (wanted_free _ _ (by rfl)) (v := .slice Ax l1.length cx) (w'' := w') ?_ (hK _ _ hI (fun _ _ h => h) rfl)
                clear hK
                simp only [execOp, e6]
                have f6 : a'.tmps[6]?.getD undef = .slice Ax l1.length cx := (Array.getD_eq_getD_getElem? ..).symm.trans e6
                clear e6
                first | rfl | (go_simp <;> exact IntWalk.i64_in _ (by omega))
              · intro a' w' K hI hd hq hK
                have e52 : a'.eval (.tmp 52) = .slice Ax l1.length cx := hd 0 52 (by kernel_rfl)
                clear hd hq
                refine op_value (wanted_free _ _ (by rfl)) (v := .int .i64 (l1.length : Int)) (w'' := w') ?_ (hK _ _ hI (fun _ _ h => h) rfl)
                clear hK
                simp only [execOp, e52]
                have f52 : a'.tmps[52]?.getD undef = .slice Ax l1.length cx := (Array.getD_eq_getD_getElem? ..).symm.trans e52
                clear e52
                first | rfl | (go_simp <;> exact IntWalk.i64_in _ (by omega))
              · intro a' w' K hI hd hq hK
                have e0 : a'.eval (.tmp 0) = .slice A l1.length c := (hq 0 (by kernel_rfl)).trans rfl
                clear hd hq
                refine op_value (wanted_free _ _ (by rfl)) (v := .slice A l1.length c) (w'' := w') ?_ (hK _ _ hI (fun _ _ h => h) rfl)
                clear hK
                simp only [execOp, e0]
                have f0 : a'.tmps[0]?.getD undef = .slice A l1.length c := (Array.getD_eq_getD_getElem? ..).symm.trans e0
                clear e0
                first | rfl | (go_simp <;> exact IntWalk.i64_in _ (by omega))
              · intro a' w' K hI hd hq hK
                have e54 : a'.eval (.tmp 54) = .slice A l1.length c := hd 2 54 (by kernel_rfl)
                clear hd hq
                refine op_value (wanted_free _ _ (by rfl)) (v := .int .i64 (l1.length : Int)) (w'' := w') ?_ (hK _ _ hI (fun _ _ h => h) rfl)
                clear hK
                simp only [execOp, e54]
                have f54 : a'.tmps[54]?.getD undef = .slice A l1.length c := (Array.getD_eq_getD_getElem? ..).symm.trans e54
                clear e54
                first | rfl | (go_simp <;> exact IntWalk.i64_in _ (by omega))
              · intro a' w' K hI hd hq hK
                have e53 : a'.eval (.tmp 53) = .int .i64 (l1.length : Int) := hd 1 53 (by kernel_rfl)
                have e55 : a'.eval (.tmp 55) = .int .i64 (l1.length : Int) := hd 3 55 (by kernel_rfl)
                clear hd hq
                refine op_value (wanted_free _ _ (by rfl)) (v := (.bool true)) (w'' := w') ?_ (hK _ _ hI (fun _ _ h => h) rfl)
                clear hK
                simp only [execOp, e53, e55]
                have f53 : a'.tmps[53]?.getD undef = .int .i64 (l1.length : Int) := (Array.getD_eq_getD_getElem? ..).symm.trans e53
                have f55 : a'.tmps[55]?.getD undef = .int .i64 (l1.length : Int) := (Array.getD_eq_getD_getElem? ..).symm.trans e55
                clear e53 e55
                first | rfl | (go_simp <;> exact IntWalk.i64_in _ (by omega))
              · intro a' w' K hI hd hq hK
                have e56 : a'.eval (.tmp 56) = (.bool true) := hd 4 56 (by kernel_rfl)
                clear hd hq
                refine op_value (wanted_free _ _ (by rfl)) (v := (.bool true)) (w'' := w') ?_ (hK _ _ hI (fun _ _ h => h) rfl)
                clear hK
                simp only [execOp, e56]
                have f56 : a'.tmps[56]?.getD undef = (.bool true) := (Array.getD_eq_getD_getElem? ..).symm.trans e56
                clear e56
                first | rfl | (go_simp <;> exact IntWalk.i64_in _ (by omega))
              · intro a' w' K hI hd hq hK
                have hg := hd 5 57 (by kernel_rfl)
                have e3 : a'.eval (.tmp 3) = .pointer (some ⟨w.heap.size, 0, none⟩) := (hq 3 (by kernel_rfl)).trans rfl
                clear hd hq
                refine op_value (wanted_on _ a' 5 57 true (by rfl) (by rfl) hg) (v := .pointer (some ⟨w.heap.size, 0, none⟩)) (w'' := w') ?_ (hK _ _ hI (fun _ _ h => h) rfl)
                clear hK
                simp only [execOp, e3]
                have f3 : a'.tmps[3]?.getD undef = .pointer (some ⟨w.heap.size, 0, none⟩) := (Array.getD_eq_getD_getElem? ..).symm.trans e3
                clear e3
                first | rfl | (go_simp <;> exact IntWalk.i64_in _ (by omega))
              · intro a' w' K hI hd hq hK
                have hg := hd 5 57 (by kernel_rfl)
                have e58 : a'.eval (.tmp 58) = .pointer (some ⟨w.heap.size, 0, none⟩) := hd 6 58 (by kernel_rfl)
                clear hd hq
                refine op_call #[.pointer (some ⟨w.heap.size, 0, none⟩)] (wanted_on _ a' 5 57 true (by rfl) (by rfl) hg) rfl Try.func24 (by kernel_rfl) rfl (by simp [e58]) ?_
                refine (diskBytes_any w' w.heap.size w.heap.size _ _ _ (D6.out.below hI)).mono ?_
                rintro e w6 ⟨x, rfl, ho, hb⟩
                obtain ⟨A6, c6, rfl, _⟩ := own_slice ho
                refine ⟨_, rfl, hK _ _ (below_below hI hI.size hb) (fun j u => by match j with | 7 => exact fun ⟨A6, c6, h1, h2⟩ => ⟨A6, c6, h1, h2.below hb⟩ | 0 | 1 | 2 | 3 | 4 | 5 | 6 | 8 | 9 | 10 | 11 | 12 | 13 | 14 | 15 | 16 => exact fun h => h | _ + 17 => exact fun _ => trivial) ⟨A6, c6, rfl, (own_RC ho).bytes⟩⟩
              · intro a' w' K hI hd hq hK
                have hg := hd 5 57 (by kernel_rfl)
                have e59 := hd 7 59 (by kernel_rfl)
                clear hd hq
                obtain ⟨A6, c6, e59, hr6⟩ := (show ∃ A6 c6, a'.eval (.tmp 59) = .slice A6 l1.length c6 ∧ RB w' A6 l1 from e59)
                refine op_value (wanted_on _ a' 5 57 true (by rfl) (by rfl) hg) (v := .string z0) (w'' := w') ?_ (hK _ _ hI (fun _ _ h => h) rfl)
                simp only [execOp, e59]
                have hst := run_string_RB (P := Try.prog) w' 22 9 5 Try.underlying22 Try.underlying5 Try.underlying9 A6 l1.length c6 l1 rfl hr6
                rw [← EZ.out] at hst
                clear e59 hK hr6
                go_simp
              · intro a' w' K hI hd hq hK
                have hg := hd 5 57 (by kernel_rfl)
                have e0 : a'.eval (.tmp 0) = .slice A l1.length c := (hq 0 (by kernel_rfl)).trans rfl
                clear hd hq
                refine op_value (wanted_on _ a' 5 57 true (by rfl) (by rfl) hg) (v := .slice A l1.length c) (w'' := w') ?_ (hK _ _ hI (fun _ _ h => h) rfl)
                clear hK
                simp only [execOp, e0]
                have f0 : a'.tmps[0]?.getD undef = .slice A l1.length c := (Array.getD_eq_getD_getElem? ..).symm.trans e0
                clear e0
                first | rfl | (go_simp <;> exact IntWalk.i64_in _ (by omega))
              · intro a' w' K hI hd hq hK
                have hg := hd 5 57 (by kernel_rfl)
                have e61 : a'.eval (.tmp 61) = .slice A l1.length c := hd 9 61 (by kernel_rfl)
                clear hd hq
                refine op_value (wanted_on _ a' 5 57 true (by rfl) (by rfl) hg) (v := .string z0) (w'' := w') ?_ (hK _ _ hI (fun _ _ h => h) rfl)
                simp only [execOp, e61]
                have hst := run_string_RB (P := Try.prog) w' 22 9 5 Try.underlying22 Try.underlying5 Try.underlying9 A l1.length c l1 rfl (HR1.out.below (below_below B6.out B6.out.size hI))
                rw [← EZ.out] at hst
                clear e61 hK
                go_simp
              · intro a' w' K hI hd hq hK
                have hg := hd 5 57 (by kernel_rfl)
                have e60 : a'.eval (.tmp 60) = .string z0 := hd 8 60 (by kernel_rfl)
                have e62 : a'.eval (.tmp 62) = .string z0 := hd 10 62 (by kernel_rfl)
                clear hd hq
                refine op_value (wanted_on _ a' 5 57 true (by rfl) (by rfl) hg) (v := (.bool true)) (w'' := w') ?_ (hK _ _ hI (fun _ _ h => h) rfl)
                clear hK
                simp only [execOp, e60, e62]
                have f60 : a'.tmps[60]?.getD undef = .string z0 := (Array.getD_eq_getD_getElem? ..).symm.trans e60
                have f62 : a'.tmps[62]?.getD undef = .string z0 := (Array.getD_eq_getD_getElem? ..).symm.trans e62
                clear e60 e62
                first | rfl | (go_simp <;> exact IntWalk.i64_in _ (by omega))
              · intro a' w' K hI hd hq hK
                have e57 : a'.eval (.tmp 57) = (.bool true) := hd 5 57 (by kernel_rfl)
                have e63 : a'.eval (.tmp 63) = (.bool true) := hd 11 63 (by kernel_rfl)
                clear hd hq
                refine op_value (wanted_free _ _ (by rfl)) (v := (.bool true)) (w'' := w') ?_ (hK _ _ hI (fun _ _ h => h) rfl)
                clear hK
                simp only [execOp, e57, e63]
                have f57 : a'.tmps[57]?.getD undef = (.bool true) := (Array.getD_eq_getD_getElem? ..).symm.trans e57
                have f63 : a'.tmps[63]?.getD undef = (.bool true) := (Array.getD_eq_getD_getElem? ..).symm.trans e63
                clear e57 e63
                first | rfl | (go_simp <;> exact IntWalk.i64_in _ (by omega))
              · intro a' w' K hI hd hq hK
                have e64 : a'.eval (.tmp 64) = (.bool true) := hd 12 64 (by kernel_rfl)
                clear hd hq
                refine op_value (wanted_free _ _ (by rfl)) (v := (.bool true)) (w'' := w') ?_ (hK _ _ hI (fun _ _ h => h) rfl)
                clear hK
                simp only [execOp, e64]
                have f64 : a'.tmps[64]?.getD undef = (.bool true) := (Array.getD_eq_getD_getElem? ..).symm.trans e64
                clear e64
                first | rfl | (go_simp <;> exact IntWalk.i64_in _ (by omega))
              · intro a' w' K hI hd hq hK
                have hg := hd 13 65 (by kernel_rfl)
                clear hd hq
                refine op_call #[] (wanted_on _ a' 13 65 true (by rfl) (by rfl) hg) rfl Try.func26 (by kernel_rfl) rfl (by simp) ?_
                refine (known4_any w').mono ?_
                rintro e w8 ⟨rfl, hb⟩
                exact ⟨_, rfl, hK _ _ (below_below hI hI.size hb) (fun j u => by match j with | 7 => exact fun ⟨A6, c6, h1, h2⟩ => ⟨A6, c6, h1, h2.below hb⟩ | 0 | 1 | 2 | 3 | 4 | 5 | 6 | 8 | 9 | 10 | 11 | 12 | 13 | 14 | 15 | 16 => exact fun h => h | _ + 17 => exact fun _ => trivial) rfl⟩
              · intro a' w' K hI hd hq hK
                have e65 : a'.eval (.tmp 65) = (.bool true) := hd 13 65 (by kernel_rfl)
                have e66 : a'.eval (.tmp 66) = .bool true := hd 14 66 (by kernel_rfl)
                clear hd hq
                refine op_value (wanted_free _ _ (by rfl)) (v := (.bool true)) (w'' := w') ?_ (hK _ _ hI (fun _ _ h => h) rfl)
                clear hK
                simp only [execOp, e65, e66]
                have f65 : a'.tmps[65]?.getD undef = (.bool true) := (Array.getD_eq_getD_getElem? ..).symm.trans e65
                have f66 : a'.tmps[66]?.getD undef = .bool true := (Array.getD_eq_getD_getElem? ..).symm.trans e66
                clear e65 e66
                first | rfl | (go_simp <;> exact IntWalk.i64_in _ (by omega))
              · intro a' w' K hI hd hq hK
                have e67 : a'.eval (.tmp 67) = (.bool true) := hd 15 67 (by kernel_rfl)
                clear hd hq
                refine op_value (wanted_free _ _ (by rfl)) (v := (.bool true)) (w'' := w') ?_ (hK _ _ hI (fun _ _ h => h) rfl)
                clear hK
                simp only [execOp, e67]
                have f67 : a'.tmps[67]?.getD undef = (.bool true) := (Array.getD_eq_getD_getElem? ..).symm.trans e67
                clear e67
                first | rfl | (go_simp <;> exact IntWalk.i64_in _ (by omega))
            case fin17 =>
              rintro w' hI _ rfl _ rfl _ rfl _ rfl _ rfl _ rfl _ rfl _ ⟨A6, c6, rfl, _⟩ _ rfl _ rfl _ rfl _ rfl _ rfl _ rfl _ rfl _ rfl _ rfl
              simp only [Act.put, List.setIfInBounds_toArray, List.set_cons_zero, List.set_cons_succ, FinGoal]
              go_wp2
              go_ret
              exact ⟨rfl, below_below B6.out B6.out.size hI⟩
end Go.Proofs.Ytiefgnmekikckaa
