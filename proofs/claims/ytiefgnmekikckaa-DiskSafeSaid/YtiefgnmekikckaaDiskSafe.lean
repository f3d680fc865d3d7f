/-
  The walk of the law DiskSafe.
-/
import Derived.Test.YtiefgnmekikckaaKnown4
import Derived.Test.YtiefgnmekikckaaOutline
set_option linter.unusedVariables false
set_option linter.unusedSimpArgs false
namespace Go.Proofs.Ytiefgnmekikckaa
open Go.RowKit

theorem bytes_append (l m : List UInt8) : (⟨l.toArray⟩ : ByteArray) ++ ⟨m.toArray⟩ = ⟨(l ++ m).toArray⟩ := by
  apply ByteArray.ext
  simp

set_option maxRecDepth 10000 in
set_option maxHeartbeats 4000000 in
theorem diskSafeLaw_any (A : Option Addr) (n c : Nat) (a : List UInt8) (A' : Option Addr) (n' c' : Nat) (b : List UInt8) (keep : Int) (w : World)
    (hl : a.length = n) (hnc : n ≤ c) (hcm : c ≤ maxLen) (hr : RB w A a) (hl' : b.length = n') (hnc' : n' ≤ c') (hcm' : c' ≤ maxLen) (hr' : RB w A' b)
    (k0 : -9223372036854775808 ≤ keep) (k1 : keep ≤ 9223372036854775807) :
    Calls Try.prog 5 #[.slice A n c, .slice A' n' c', .int .i64 keep] w fun e w' => e = .returned (.bool true) ∧ Below w.heap.size w w' := by
  subst hl
  subst hl'
  unfold maxLen at hcm hcm'
  have HRa := Lib.hid hr
  have HRb := Lib.hid hr'
  clear hr hr'
  go_enter Try.func5, Try.ntmps5
  go_wp2_with fail
  refine (diskNew_any _).mono ?_
  rintro e w1 ⟨rfl, hd, hb⟩
  have D1 := Lib.hid hd
  have B1 := Lib.hid hb
  clear hd hb
  go_upto_if 13 with fail
  go_cut [0] (fun s0 wx => ∃ (m : Nat) (l1 : List UInt8), l1.length = m ∧ m ≤ 500 ∧ m ≤ c ∧ RB w A l1 ∧ s0 = .slice A m c ∧ w1 = wx)
  case first =>
    go_wp2_with fail
    · go_meet
      exact ⟨500, a.take 500, by simp; omega, by omega, by omega, RB_take HRa.out _, rfl, rfl⟩
    · go_meet
      exact ⟨a.length, a, rfl, by omega, by omega, HRa.out, rfl, rfl⟩
  case rest =>
    obtain ⟨m, l1, hl1, hm, hmc, hr1, rfl, rfl⟩ := hcut
    subst hl1
    have HR1 := Lib.hid hr1
    clear hr1 HRa
    go_upto_if 18 with fail
    go_cut [1] (fun s0 wx => ∃ (m : Nat) (l2 : List UInt8), l2.length = m ∧ m ≤ 500 ∧ m ≤ c' ∧ RB w A' l2 ∧ s0 = .slice A' m c' ∧ w1 = wx)
    case first =>
      go_wp2_with fail
      · go_meet
        exact ⟨500, b.take 500, by simp; omega, by omega, by omega, RB_take HRb.out _, rfl, rfl⟩
      · go_meet
        exact ⟨b.length, b, rfl, by omega, by omega, HRb.out, rfl, rfl⟩
    case rest =>
      obtain ⟨m2, l2, hl2, hm2, hmc2, hr2, rfl, rfl⟩ := hcut
      subst hl2
      have HR2 := Lib.hid hr2
      clear hr2 HRb
      go_wp2_with fail
      refine (diskAppend_any _ w.heap.size w.heap.size _ [] 0 D1.out A l1.length c l1 rfl (HR1.out.below B1.out) (by simp; omega)).mono ?_
      rintro e w2 ⟨v2, rfl, hd, hu, _⟩
      have D2 := Lib.hid (show DiskAt w2 w.heap.size w.heap.size v2 l1 0 from hd)
      have B2 := Lib.hid (D1.out.goes B1.out hu)
      clear hd hu
      go_wp2_with fail
      refine (diskSync_any _ w.heap.size w.heap.size _ _ 0 D2.out).mono ?_
      rintro e w3 ⟨v3, rfl, hd, hu, _⟩
      have D3 := Lib.hid hd
      have B3 := Lib.hid (D2.out.goes B2.out hu)
      clear hd hu
      go_wp2_with fail
      refine (diskAppend_any _ w.heap.size w.heap.size _ _ _ D3.out A' l2.length c' l2 rfl (HR2.out.below B3.out) (by omega)).mono ?_
      rintro e w4 ⟨v4, rfl, hd, hu, _⟩
      have D4 := Lib.hid hd
      have B4 := Lib.hid (D3.out.goes B3.out hu)
      clear hd hu
      go_wp2_with fail
      refine (diskCrash_any _ w.heap.size w.heap.size _ _ _ D4.out keep k0 k1).mono ?_
      rintro e w5 ⟨v5, rfl, hd, hu, _⟩
      have hk : ∃ k : Nat, k = min keep.toNat l2.length := ⟨_, rfl⟩
      obtain ⟨k, hk⟩ := hk
      have hkl : k ≤ l2.length := by omega
      have e1 : crashLen (l1 ++ l2) l1.length keep = l1.length + k := by unfold crashLen; rw [List.length_append]; omega
      have e2 : (l1 ++ l2).take (l1.length + k) = l1 ++ l2.take k := by rw [List.take_append, List.take_of_length_le (by omega)]; simp
      rw [e1, e2] at hd
      have HK := Lib.hid hk
      have D5 := Lib.hid hd
      have B5 := Lib.hid (D4.out.goes B4.out hu)
      clear hd hu e1 e2 hk
      go_upto_if 33 with fail
      go_cut [2] (fun s2 wx => ∃ q : Int, q = max keep 0 ∧ s2 = .int .i64 q ∧ w5 = wx)
      case first =>
        go_wp2_with fail
        · go_meet
          exact ⟨0, by omega, rfl, rfl⟩
        · go_meet
          exact ⟨keep, by omega, rfl, rfl⟩
      case rest =>
        obtain ⟨q, hq, rfl, rfl⟩ := hcut
        have HQ := Lib.hid hq
        clear hq
        go_upto_if 37 with fail
        go_cut [2] (fun s2 wx => s2 = .int .i64 (k : Int) ∧ w5 = wx)
        case first =>
          go_wp2_with fail
          · go_meet
            exact ⟨by have := HQ.out; have := HK.out; rw [show (k : Int) = (l2.length : Int) by omega], rfl⟩
          · go_meet
            exact ⟨by have := HQ.out; have := HK.out; rw [show (k : Int) = q by omega], rfl⟩
        case rest =>
          obtain ⟨rfl, rfl⟩ := hcut
          clear HQ HK
          go_wp2_with fail
          obtain ⟨sa, sb, z0, ea, eb, ez, ha, hb, hz⟩ : ∃ sa sb z0 : ByteArray, sa = ⟨l1.toArray⟩ ∧ sb = ⟨(l2.take k).toArray⟩ ∧ z0 = ⟨(l1 ++ l2.take k).toArray⟩ ∧ sa.size ≤ 8388608 ∧ sb.size ≤ 8388608 ∧ sa ++ sb = z0 :=
            ⟨_, _, _, rfl, rfl, rfl, by show l1.toArray.size ≤ _; simp; omega, by show (l2.take k).toArray.size ≤ _; simp; omega, bytes_append _ _⟩
          have hS : ∀ w' : World, Below w5.heap.size w5 w' → ((convert 22 9 (.slice A l1.length c)).run Try.prog w' = .ok (.string sa) w' ∧ (convert 22 9 (.slice A' k c')).run Try.prog w' = .ok (.string sb) w' ∧ Below w5.heap.size w5 w') := by
            intro w' hw
            have hb0 := (below_below B5.out B5.out.size hw)
            refine ⟨?_, ?_, hw⟩
            · rw [ea]; exact run_string_RB (P := Try.prog) w' 22 9 5 Try.underlying22 Try.underlying5 Try.underlying9 A _ c l1 rfl (HR1.out.below hb0)
            · rw [eb]; exact run_string_RB (P := Try.prog) w' 22 9 5 Try.underlying22 Try.underlying5 Try.underlying9 A' k c' (l2.take k) (by simp; omega) (RB_take (HR2.out.below hb0) k)
          have HS := Lib.hid hS
          have EZ := Lib.hid ez
          clear hS ea eb ez
          have hadd : ∀ w : World, (Op.stringOp .add sa sb).run Try.prog w = .ok (.string z0) w := fun w => by rw [run_string_add_sum (P := Try.prog) (w := w) sa sb (by omega), hz]
          clear hz
          have ha2 : (sa.size : Int) ≤ 8388608 := by omega
          have hb3 : (sb.size : Int) ≤ 8388608 := by omega
          have hb1 : (0 : Int) ≤ (k : Int) := by omega
          have hb2 : (k : Int) ≤ (c' : Int) := by omega
          refine region_by (fun w' => Below w5.heap.size w5 w') [(fun v _ => v = .pointer (some ⟨w.heap.size, 0, none⟩)), fun v w' => ∃ A6 c6, v = .slice A6 (l1.length + k) c6 ∧ RB w' A6 (l1 ++ l2.take k), fun v _ => v = .string z0, (fun v _ => v = .slice A l1.length c), (fun v _ => v = .string sa), (fun v _ => v = .slice A' l2.length c'), (fun v _ => v = .int .i64 (k : Int)), (fun v _ => v = .slice A' k c'), (fun v _ => v = .string sb), (fun v _ => v = .string z0), (fun v _ => v = (.bool true)), (fun v _ => v = (.bool true)), (fun v _ => v = .pointer (some ⟨w.heap.size, 0, none⟩)), fun v _ => v = .int .i64 ((l1.length + k : Nat) : Int), (fun v _ => v = .slice A l1.length c), (fun v _ => v = .int .i64 (l1.length : Int)), (fun v _ => v = .int .i64 (k : Int)), (fun v _ => v = .int .i64 ((l1.length + k : Nat) : Int)), (fun v _ => v = (.bool true)), (fun v _ => v = (.bool true)), (fun v _ => v = (.bool true)), fun v _ => v = .bool true, (fun v _ => v = (.bool true)), (fun v _ => v = (.bool true))] (by kernel_rfl) (by kernel_rfl) (by kernel_rfl) rfl ((Below.refl _ _).drew) ?ok16 ?fin16
          case ok16 =>
            refine ⟨?_, ?_, ?_, ?_, ?_, ?_, ?_, ?_, ?_, ?_, ?_, ?_, ?_, ?_, ?_, ?_, ?_, ?_, ?_, ?_, ?_, ?_, ?_, ?_, trivial⟩
            · intro a' w' K hI hd hq hK
              have e7 : a'.eval (.tmp 7) = .pointer (some ⟨w.heap.size, 0, none⟩) := (hq 7 (by kernel_rfl)).trans rfl
              clear hd hq
              refine op_value (wanted_free _ _ (by rfl)) (v := .pointer (some ⟨w.heap.size, 0, none⟩)) (w'' := w') ?_ (hK _ _ hI (fun _ _ h => h) rfl)
              clear hK
              simp only [execOp, e7]
              have f7 : a'.tmps[7]?.getD undef = .pointer (some ⟨w.heap.size, 0, none⟩) := (Array.getD_eq_getD_getElem? ..).symm.trans e7
              clear e7
              first | rfl | (go_simp <;> exact IntWalk.i64_in _ (by omega))
            · intro a' w' K hI hd hq hK
              have e40 : a'.eval (.tmp 40) = .pointer (some ⟨w.heap.size, 0, none⟩) := hd 0 40 (by kernel_rfl)
              clear hd hq
              refine op_call #[.pointer (some ⟨w.heap.size, 0, none⟩)] (wanted_free _ _ (by rfl)) rfl Try.func24 (by kernel_rfl) rfl (by simp [e40]) ?_
              refine (diskBytes_any w' w.heap.size w.heap.size _ _ _ (D5.out.below hI)).mono ?_
              rintro e w6 ⟨x, rfl, ho, hb⟩
              obtain ⟨A6, c6, rfl, _⟩ := own_slice ho
              refine ⟨_, rfl, hK _ _ (below_below hI hI.size hb) (fun j u => by match j with | 1 => exact fun ⟨A6, c6, h1, h2⟩ => ⟨A6, c6, h1, h2.below hb⟩ | 0 | 2 | 3 | 4 | 5 | 6 | 7 | 8 | 9 | 10 | 11 | 12 | 13 | 14 | 15 | 16 | 17 | 18 | 19 | 20 | 21 | 22 | 23 => exact fun h => h | _ + 24 => exact fun _ => trivial) ⟨A6, c6, by rw [List.length_append, List.length_take, Nat.min_eq_left hkl], (own_RC ho).bytes⟩⟩
            · intro a' w' K hI hd hq hK
              have e41 := hd 1 41 (by kernel_rfl)
              clear hd hq
              obtain ⟨A6, c6, e41, hr6⟩ := (show ∃ A6 c6, a'.eval (.tmp 41) = .slice A6 (l1.length + k) c6 ∧ RB w' A6 (l1 ++ l2.take k) from e41)
              refine op_value (wanted_free _ _ (by rfl)) (v := .string z0) (w'' := w') ?_ (hK _ _ hI (fun _ _ h => h) rfl)
              simp only [execOp, e41]
              have hst := run_string_RB (P := Try.prog) w' 22 9 5 Try.underlying22 Try.underlying5 Try.underlying9 A6 (l1.length + k) c6 (l1 ++ l2.take k) (by simp; omega) hr6
              rw [← EZ.out] at hst
              clear e41 hK hr6
              go_simp
            · intro a' w' K hI hd hq hK
              have e0 : a'.eval (.tmp 0) = .slice A l1.length c := (hq 0 (by kernel_rfl)).trans rfl
              clear hd hq
              refine op_value (wanted_free _ _ (by rfl)) (v := .slice A l1.length c) (w'' := w') ?_ (hK _ _ hI (fun _ _ h => h) rfl)
              clear hK
              simp only [execOp, e0]
              have f0 : a'.tmps[0]?.getD undef = .slice A l1.length c := (Array.getD_eq_getD_getElem? ..).symm.trans e0
              clear e0
              first | rfl | (go_simp <;> exact IntWalk.i64_in _ (by omega))
            · intro a' w' K hI hd hq hK
              have e43 : a'.eval (.tmp 43) = .slice A l1.length c := hd 3 43 (by kernel_rfl)
              clear hd hq
              have hS := (HS.out w' hI).1
              refine op_value (wanted_free _ _ (by rfl)) (v := .string sa) (w'' := w') ?_ (hK _ _ hI (fun _ _ h => h) rfl)
              clear hK
              simp only [execOp, e43]
              have f43 : a'.tmps[43]?.getD undef = .slice A l1.length c := (Array.getD_eq_getD_getElem? ..).symm.trans e43
              clear e43
              first | rfl | (go_simp <;> exact IntWalk.i64_in _ (by omega))
            · intro a' w' K hI hd hq hK
              have e1 : a'.eval (.tmp 1) = .slice A' l2.length c' := (hq 1 (by kernel_rfl)).trans rfl
              clear hd hq
              refine op_value (wanted_free _ _ (by rfl)) (v := .slice A' l2.length c') (w'' := w') ?_ (hK _ _ hI (fun _ _ h => h) rfl)
              clear hK
              simp only [execOp, e1]
              have f1 : a'.tmps[1]?.getD undef = .slice A' l2.length c' := (Array.getD_eq_getD_getElem? ..).symm.trans e1
              clear e1
              first | rfl | (go_simp <;> exact IntWalk.i64_in _ (by omega))
            · intro a' w' K hI hd hq hK
              have e2 : a'.eval (.tmp 2) = .int .i64 (k : Int) := (hq 2 (by kernel_rfl)).trans rfl
              clear hd hq
              refine op_value (wanted_free _ _ (by rfl)) (v := .int .i64 (k : Int)) (w'' := w') ?_ (hK _ _ hI (fun _ _ h => h) rfl)
              clear hK
              simp only [execOp, e2]
              have f2 : a'.tmps[2]?.getD undef = .int .i64 (k : Int) := (Array.getD_eq_getD_getElem? ..).symm.trans e2
              clear e2
              first | rfl | (go_simp <;> exact IntWalk.i64_in _ (by omega))
            · intro a' w' K hI hd hq hK
              have e45 : a'.eval (.tmp 45) = .slice A' l2.length c' := hd 5 45 (by kernel_rfl)
              have e46 : a'.eval (.tmp 46) = .int .i64 (k : Int) := hd 6 46 (by kernel_rfl)
              clear hd hq
              refine op_value (wanted_free _ _ (by rfl)) (v := .slice A' k c') (w'' := w') ?_ (hK _ _ hI (fun _ _ h => h) rfl)
              clear hK
              simp only [execOp, e45, e46]
              have f45 : a'.tmps[45]?.getD undef = .slice A' l2.length c' := (Array.getD_eq_getD_getElem? ..).symm.trans e45
              have f46 : a'.tmps[46]?.getD undef = .int .i64 (k : Int) := (Array.getD_eq_getD_getElem? ..).symm.trans e46
              clear e45 e46
              first | rfl | (go_simp <;> exact IntWalk.i64_in _ (by omega))
            · intro a' w' K hI hd hq hK
              have e47 : a'.eval (.tmp 47) = .slice A' k c' := hd 7 47 (by kernel_rfl)
              clear hd hq
              have hS := (HS.out w' hI).2.1
              refine op_value (wanted_free _ _ (by rfl)) (v := .string sb) (w'' := w') ?_ (hK _ _ hI (fun _ _ h => h) rfl)
              clear hK
              simp only [execOp, e47]
              have f47 : a'.tmps[47]?.getD undef = .slice A' k c' := (Array.getD_eq_getD_getElem? ..).symm.trans e47
              clear e47
              first | rfl | (go_simp <;> exact IntWalk.i64_in _ (by omega))
            · intro a' w' K hI hd hq hK
              have e44 : a'.eval (.tmp 44) = .string sa := hd 4 44 (by kernel_rfl)
              have e48 : a'.eval (.tmp 48) = .string sb := hd 8 48 (by kernel_rfl)
              clear hd hq
              refine op_value (wanted_free _ _ (by rfl)) (v := .string z0) (w'' := w') ?_ (hK _ _ hI (fun _ _ h => h) rfl)
              clear hK
              simp only [execOp, e44, e48]
              have f44 : a'.tmps[44]?.getD undef = .string sa := (Array.getD_eq_getD_getElem? ..).symm.trans e44
              have f48 : a'.tmps[48]?.getD undef = .string sb := (Array.getD_eq_getD_getElem? ..).symm.trans e48
              clear e44 e48
              first | rfl | (go_simp <;> exact IntWalk.i64_in _ (by omega))
            · intro a' w' K hI hd hq hK
              have e42 : a'.eval (.tmp 42) = .string z0 := hd 2 42 (by kernel_rfl)
              have e49 : a'.eval (.tmp 49) = .string z0 := hd 9 49 (by kernel_rfl)
              clear hd hq
              refine op_value (wanted_free _ _ (by rfl)) (v := (.bool true)) (w'' := w') ?_ (hK _ _ hI (fun _ _ h => h) rfl)
              clear hK
              simp only [execOp, e42, e49]
              have f42 : a'.tmps[42]?.getD undef = .string z0 := (Array.getD_eq_getD_getElem? ..).symm.trans e42
              have f49 : a'.tmps[49]?.getD undef = .string z0 := (Array.getD_eq_getD_getElem? ..).symm.trans e49
              clear e42 e49
              first | rfl | (go_simp <;> exact IntWalk.i64_in _ (by omega))
            · intro a' w' K hI hd hq hK
              have e50 : a'.eval (.tmp 50) = (.bool true) := hd 10 50 (by kernel_rfl)
              clear hd hq
              refine op_value (wanted_free _ _ (by rfl)) (v := (.bool true)) (w'' := w') ?_ (hK _ _ hI (fun _ _ h => h) rfl)
              clear hK
              simp only [execOp, e50]
              have f50 : a'.tmps[50]?.getD undef = (.bool true) := (Array.getD_eq_getD_getElem? ..).symm.trans e50
              clear e50
              first | rfl | (go_simp <;> exact IntWalk.i64_in _ (by omega))
            · intro a' w' K hI hd hq hK
              have hg := hd 11 51 (by kernel_rfl)
              have e7 : a'.eval (.tmp 7) = .pointer (some ⟨w.heap.size, 0, none⟩) := (hq 7 (by kernel_rfl)).trans rfl
              clear hd hq
              refine op_value (wanted_on _ a' 11 51 true (by rfl) (by rfl) hg) (v := .pointer (some ⟨w.heap.size, 0, none⟩)) (w'' := w') ?_ (hK _ _ hI (fun _ _ h => h) rfl)
              clear hK
              simp only [execOp, e7]
              have f7 : a'.tmps[7]?.getD undef = .pointer (some ⟨w.heap.size, 0, none⟩) := (Array.getD_eq_getD_getElem? ..).symm.trans e7
              clear e7
              first | rfl | (go_simp <;> exact IntWalk.i64_in _ (by omega))
            · intro a' w' K hI hd hq hK
              have hg := hd 11 51 (by kernel_rfl)
              have e52 : a'.eval (.tmp 52) = .pointer (some ⟨w.heap.size, 0, none⟩) := hd 12 52 (by kernel_rfl)
              clear hd hq
              refine op_call #[.pointer (some ⟨w.heap.size, 0, none⟩)] (wanted_on _ a' 11 51 true (by rfl) (by rfl) hg) rfl Try.func25 (by kernel_rfl) rfl (by simp [e52]) ?_
              refine (diskSafe_any w' w.heap.size w.heap.size _ _ _ (D5.out.below hI)).mono ?_
              rintro e w8 ⟨rfl, rfl⟩
              exact ⟨_, rfl, hK _ _ hI (fun _ _ h => h) rfl⟩
            · intro a' w' K hI hd hq hK
              have hg := hd 11 51 (by kernel_rfl)
              have e0 : a'.eval (.tmp 0) = .slice A l1.length c := (hq 0 (by kernel_rfl)).trans rfl
              clear hd hq
              refine op_value (wanted_on _ a' 11 51 true (by rfl) (by rfl) hg) (v := .slice A l1.length c) (w'' := w') ?_ (hK _ _ hI (fun _ _ h => h) rfl)
              clear hK
              simp only [execOp, e0]
              have f0 : a'.tmps[0]?.getD undef = .slice A l1.length c := (Array.getD_eq_getD_getElem? ..).symm.trans e0
              clear e0
              first | rfl | (go_simp <;> exact IntWalk.i64_in _ (by omega))
            · intro a' w' K hI hd hq hK
              have hg := hd 11 51 (by kernel_rfl)
              have e54 : a'.eval (.tmp 54) = .slice A l1.length c := hd 14 54 (by kernel_rfl)
              clear hd hq
              refine op_value (wanted_on _ a' 11 51 true (by rfl) (by rfl) hg) (v := .int .i64 (l1.length : Int)) (w'' := w') ?_ (hK _ _ hI (fun _ _ h => h) rfl)
              clear hK
              simp only [execOp, e54]
              have f54 : a'.tmps[54]?.getD undef = .slice A l1.length c := (Array.getD_eq_getD_getElem? ..).symm.trans e54
              clear e54
              first | rfl | (go_simp <;> exact IntWalk.i64_in _ (by omega))
            · intro a' w' K hI hd hq hK
              have hg := hd 11 51 (by kernel_rfl)
              have e2 : a'.eval (.tmp 2) = .int .i64 (k : Int) := (hq 2 (by kernel_rfl)).trans rfl
              clear hd hq
              refine op_value (wanted_on _ a' 11 51 true (by rfl) (by rfl) hg) (v := .int .i64 (k : Int)) (w'' := w') ?_ (hK _ _ hI (fun _ _ h => h) rfl)
              clear hK
              simp only [execOp, e2]
              have f2 : a'.tmps[2]?.getD undef = .int .i64 (k : Int) := (Array.getD_eq_getD_getElem? ..).symm.trans e2
              clear e2
              first | rfl | (go_simp <;> exact IntWalk.i64_in _ (by omega))
            · intro a' w' K hI hd hq hK
              have hg := hd 11 51 (by kernel_rfl)
              have e55 : a'.eval (.tmp 55) = .int .i64 (l1.length : Int) := hd 15 55 (by kernel_rfl)
              have e56 : a'.eval (.tmp 56) = .int .i64 (k : Int) := hd 16 56 (by kernel_rfl)
              clear hd hq
              refine op_value (wanted_on _ a' 11 51 true (by rfl) (by rfl) hg) (v := .int .i64 ((l1.length + k : Nat) : Int)) (w'' := w') ?_ (hK _ _ hI (fun _ _ h => h) rfl)
              clear hK
              simp only [execOp, e55, e56]
              have f55 : a'.tmps[55]?.getD undef = .int .i64 (l1.length : Int) := (Array.getD_eq_getD_getElem? ..).symm.trans e55
              have f56 : a'.tmps[56]?.getD undef = .int .i64 (k : Int) := (Array.getD_eq_getD_getElem? ..).symm.trans e56
              clear e55 e56
              first | rfl | (go_simp <;> exact IntWalk.i64_in _ (by omega))
            · intro a' w' K hI hd hq hK
              have hg := hd 11 51 (by kernel_rfl)
              have e53 : a'.eval (.tmp 53) = .int .i64 ((l1.length + k : Nat) : Int) := hd 13 53 (by kernel_rfl)
              have e57 : a'.eval (.tmp 57) = .int .i64 ((l1.length + k : Nat) : Int) := hd 17 57 (by kernel_rfl)
              clear hd hq
              refine op_value (wanted_on _ a' 11 51 true (by rfl) (by rfl) hg) (v := (.bool true)) (w'' := w') ?_ (hK _ _ hI (fun _ _ h => h) rfl)
              clear hK
              simp only [execOp, e53, e57]
              have f53 : a'.tmps[53]?.getD undef = .int .i64 ((l1.length + k : Nat) : Int) := (Array.getD_eq_getD_getElem? ..).symm.trans e53
              have f57 : a'.tmps[57]?.getD undef = .int .i64 ((l1.length + k : Nat) : Int) := (Array.getD_eq_getD_getElem? ..).symm.trans e57
              clear e53 e57
              first | rfl | (go_simp <;> exact IntWalk.i64_in _ (by omega))
            · intro a' w' K hI hd hq hK
              have e51 : a'.eval (.tmp 51) = (.bool true) := hd 11 51 (by kernel_rfl)
              have e58 : a'.eval (.tmp 58) = (.bool true) := hd 18 58 (by kernel_rfl)
              clear hd hq
              refine op_value (wanted_free _ _ (by rfl)) (v := (.bool true)) (w'' := w') ?_ (hK _ _ hI (fun _ _ h => h) rfl)
              clear hK
              simp only [execOp, e51, e58]
              have f51 : a'.tmps[51]?.getD undef = (.bool true) := (Array.getD_eq_getD_getElem? ..).symm.trans e51
              have f58 : a'.tmps[58]?.getD undef = (.bool true) := (Array.getD_eq_getD_getElem? ..).symm.trans e58
              clear e51 e58
              first | rfl | (go_simp <;> exact IntWalk.i64_in _ (by omega))
            · intro a' w' K hI hd hq hK
              have e59 : a'.eval (.tmp 59) = (.bool true) := hd 19 59 (by kernel_rfl)
              clear hd hq
              refine op_value (wanted_free _ _ (by rfl)) (v := (.bool true)) (w'' := w') ?_ (hK _ _ hI (fun _ _ h => h) rfl)
              clear hK
              simp only [execOp, e59]
              have f59 : a'.tmps[59]?.getD undef = (.bool true) := (Array.getD_eq_getD_getElem? ..).symm.trans e59
              clear e59
              first | rfl | (go_simp <;> exact IntWalk.i64_in _ (by omega))
            · intro a' w' K hI hd hq hK
              have hg := hd 20 60 (by kernel_rfl)
              clear hd hq
              refine op_call #[] (wanted_on _ a' 20 60 true (by rfl) (by rfl) hg) rfl Try.func26 (by kernel_rfl) rfl (by simp) ?_
              refine (known4_any w').mono ?_
              rintro e w8 ⟨rfl, hb⟩
              exact ⟨_, rfl, hK _ _ (below_below hI hI.size hb) (fun j u => by match j with | 1 => exact fun ⟨A6, c6, h1, h2⟩ => ⟨A6, c6, h1, h2.below hb⟩ | 0 | 2 | 3 | 4 | 5 | 6 | 7 | 8 | 9 | 10 | 11 | 12 | 13 | 14 | 15 | 16 | 17 | 18 | 19 | 20 | 21 | 22 | 23 => exact fun h => h | _ + 24 => exact fun _ => trivial) rfl⟩
            · intro a' w' K hI hd hq hK
              have e60 : a'.eval (.tmp 60) = (.bool true) := hd 20 60 (by kernel_rfl)
              have e61 : a'.eval (.tmp 61) = .bool true := hd 21 61 (by kernel_rfl)
              clear hd hq
              refine op_value (wanted_free _ _ (by rfl)) (v := (.bool true)) (w'' := w') ?_ (hK _ _ hI (fun _ _ h => h) rfl)
              clear hK
              simp only [execOp, e60, e61]
              have f60 : a'.tmps[60]?.getD undef = (.bool true) := (Array.getD_eq_getD_getElem? ..).symm.trans e60
              have f61 : a'.tmps[61]?.getD undef = .bool true := (Array.getD_eq_getD_getElem? ..).symm.trans e61
              clear e60 e61
              first | rfl | (go_simp <;> exact IntWalk.i64_in _ (by omega))
            · intro a' w' K hI hd hq hK
              have e62 : a'.eval (.tmp 62) = (.bool true) := hd 22 62 (by kernel_rfl)
              clear hd hq
              refine op_value (wanted_free _ _ (by rfl)) (v := (.bool true)) (w'' := w') ?_ (hK _ _ hI (fun _ _ h => h) rfl)
              clear hK
              simp only [execOp, e62]
              have f62 : a'.tmps[62]?.getD undef = (.bool true) := (Array.getD_eq_getD_getElem? ..).symm.trans e62
              clear e62
              first | rfl | (go_simp <;> exact IntWalk.i64_in _ (by omega))
          case fin16 =>
            rintro w' hI _ rfl _ ⟨A6, c6, rfl, _⟩ _ rfl _ rfl _ rfl _ rfl _ rfl _ rfl _ rfl _ rfl _ rfl _ rfl _ rfl _ rfl _ rfl _ rfl _ rfl _ rfl _ rfl _ rfl _ rfl _ rfl _ rfl _ rfl
            simp only [Act.put, List.setIfInBounds_toArray, List.set_cons_zero, List.set_cons_succ, FinGoal]
            go_wp2
            go_ret
            exact ⟨rfl, below_below B5.out B5.out.size hI⟩
end Go.Proofs.Ytiefgnmekikckaa
