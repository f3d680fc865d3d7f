/-
  The walk of the law HistClients.
-/
import Derived.Test.YtiefgnmekikckaaKnown21
import Derived.Test.YtiefgnmekikckaaHistPure
import Derived.Test.YtiefgnmekikckaaOutline
import Derived.IntWalk
set_option linter.unusedVariables false
set_option linter.unusedSimpArgs false
namespace Go.Proofs.Ytiefgnmekikckaa
open Go.RowKit

theorem before_yes (c1 c2 f1 f2 t1 t2 : Int) (a1 a2 a3 a4 a5 b1 b2 b3 b4 b5 : Value) (w : World) (h0 : 0 ≤ t1) (h1 : t1 < f2) :
    Calls Try.prog 36 #[.agg #[.int .i64 c1, a1, a2, a3, a4, a5, .int .i64 f1, .int .i64 t1], .agg #[.int .i64 c2, b1, b2, b3, b4, b5, .int .i64 f2, .int .i64 t2]] w fun e w' => e = .returned (.bool true) ∧ Below w.heap.size w w' := by
  go_enter Try.func36, Try.ntmps36
  go_wp2_with fail
  go_ret
  exact ⟨rfl, ((Below.refl _ _).alloc (Nat.le_refl _) _).alloc (by simp) _⟩

/-- A call's cells, at its place. -/
theorem Ho.row {w : World} {B g cx : Nat} {H : List Ho} (h : w.ownsRow B 67 8 (.slice (some ⟨g, 0, none⟩) H.length cx) H.length (hcells H)) (i : Nat) (hi : i < H.length) :
    w.cell? ⟨g, i * 8, none⟩ = some (.int .i64 H[i].c) ∧ w.cell? ⟨g, i * 8 + 1, none⟩ = some H[i].a1 ∧ w.cell? ⟨g, i * 8 + 2, none⟩ = some H[i].a2 ∧ w.cell? ⟨g, i * 8 + 3, none⟩ = some H[i].a3 ∧
      w.cell? ⟨g, i * 8 + 4, none⟩ = some H[i].a4 ∧ w.cell? ⟨g, i * 8 + 5, none⟩ = some H[i].a5 ∧ w.cell? ⟨g, i * 8 + 6, none⟩ = some (.int .i64 H[i].frm) ∧ w.cell? ⟨g, i * 8 + 7, none⟩ = some (.int .i64 H[i].tw) := by
  have gt := fun j (hj : j < 8) => (h.cellAt (i * 8 + j) (by omega)).trans (hcells_get H i j hi hj)
  exact ⟨gt 0 (by omega), gt 1 (by omega), gt 2 (by omega), gt 3 (by omega), gt 4 (by omega), gt 5 (by omega), gt 6 (by omega), gt 7 (by omega)⟩

theorem plain_get {H : List Ho} {s : List Pc × (Int → Nat)} (e : H.map Ho.plain = s.1) (i : Nat) (hi : i < H.length) : ∃ h : i < s.1.length, s.1[i] = (H[i].c, H[i].frm, H[i].tw) := by
  have hl : i < s.1.length := by rw [← e]; simpa using hi
  refine ⟨hl, ?_⟩
  have : s.1[i]? = some (H[i].c, H[i].frm, H[i].tw) := by rw [← e, List.getElem?_map, List.getElem?_eq_getElem hi]; rfl
  rw [List.getElem?_eq_getElem hl] at this
  exact Option.some.inj this

set_option maxRecDepth 100000 in
set_option maxHeartbeats 16000000 in
theorem histClients_any (A : Option Addr) (n c : Nat) (L0 : List Ev) (w : World) (hl : L0.length = n) (hnc : n ≤ c) (hn : n ≤ 9223372036854775807) (hcm : c ≤ 9223372036854775807) (hr : RE w A L0) :
    Calls Try.prog 10 #[.slice A n c] w fun e w' => e = .returned (.bool true) ∧ Below w.heap.size w w' := by
  subst hl
  have HL := Lib.hid hr
  clear hr
  go_enter Try.func10, Try.ntmps10
  go_upto_if 14 with fail
  go_cut [0] (fun s0 wx => ∃ (m : Nat) (L : List Ev), L.length = m ∧ m ≤ 60 ∧ m ≤ c ∧ RE w A L ∧ s0 = .slice A m c ∧ w = wx)
  case first =>
    go_wp2_with fail
    · go_meet
      refine ⟨60, L0.take 60, by rw [List.length_take]; omega, by omega, by omega, ⟨?_, fun q hq => HL.out.ok q (List.mem_of_mem_take hq)⟩, rfl, rfl⟩
      intro h0
      obtain ⟨ad, e, h⟩ := HL.out.cells (by rw [ev_length] at h0 ⊢; rw [List.length_take] at h0; omega)
      refine ⟨ad, e, fun j u hj => h j u ?_⟩
      have h1 : L0.flatMap Ev.cells = (L0.take 60).flatMap Ev.cells ++ (L0.drop 60).flatMap Ev.cells := by rw [← List.flatMap_append, List.take_append_drop]
      rw [h1, List.getElem?_append_left (List.getElem?_eq_some_iff.1 hj).1]
      exact hj
    · go_meet
      exact ⟨L0.length, L0, rfl, by omega, by omega, HL.out, rfl, rfl⟩
  case rest =>
    obtain ⟨m, L, hlm, hm, hmc, hr1, rfl, rfl⟩ := hcut
    subst hlm
    have HR := Lib.hid hr1
    clear hr1 HL
    go_wp2_with fail
    refine (ops_any A L.length c L w rfl (by omega) HR.out).mono ?_
    rintro e w1 (⟨Pf, x, H, hrn, rfl, hH, ho, hb⟩ | ⟨j, hrn, rfl, hb⟩)
    · have hlen : H.length = calledN (L.map kc) := by
        have h := (hrun_inv _ 0 0 0 _ _ HInv.start hrn).na
        rw [← hH, List.length_map] at h
        omega
      have HINV := Lib.hid (hrun_inv _ 0 0 0 _ _ HInv.start hrn)
      have HH := Lib.hid hH
      have HO := Lib.hid ho
      have HB := Lib.hid hb
      have HLN := Lib.hid hlen
      clear hrn hH ho hb hlen
      obtain ⟨Ax, cx, rfl, _⟩ := own_slice HO.out
      have hHL : H.length ≤ 60 := by
        rw [HLN.out]
        exact Nat.le_trans (List.countP_le_length) (by simp; omega)
      have HEND := Lib.hid (show endedN (H.map Ho.plain) = answeredN (L.map kc) by
        have h := HINV.out.nb
        rw [← HH.out] at h
        omega)
      go_wp2_with fail
      go_loopg [6, 7, 9] L.length (fun k s6 s7 s9 wr => ∃ (i a b : Nat), i ≤ L.length ∧ k = L.length - i ∧ s9 = .int .i64 (i : Int) ∧ s6 = .int .i64 (a : Int) ∧ s7 = .int .i64 (b : Int) ∧ a = calledN ((L.take i).map kc) ∧ b = answeredN ((L.take i).map kc) ∧ wr = w1)
      case atStart => exact ⟨0, 0, 0, Nat.zero_le _, by omega, rfl, rfl, rfl, rfl, rfl, rfl⟩
      case round =>
        obtain ⟨i, a, b, hi, hk, rfl, rfl, rfl, ha, hb, rfl⟩ := hrel
        have HK := Lib.hid hk
        have HCA := Lib.hid ha
        have HCB := Lib.hid hb
        have ha60 : a ≤ 60 := by rw [ha]; exact Nat.le_trans List.countP_le_length (by simp; omega)
        have hb60 : b ≤ 60 := by rw [hb]; exact Nat.le_trans List.countP_le_length (by simp; omega)
        clear hk ha hb
        by_cases hlt : i < L.length
        · obtain ⟨b0, o0, rfl, r0⟩ := HR.out.cells.parts (by rw [ev_length]; omega)
          have k0 := cell_below HB.out (r0 (i * 7 + 0) _ (by rw [ev_get L i 0 hlt (by omega)]; rfl))
          simp only [Nat.add_zero] at k0
          have HCT := Lib.hid (show calledN ((L.take (i + 1)).map kc) = a + (if L[i].kind = 1 then 1 else 0) ∧ answeredN ((L.take (i + 1)).map kc) = b + (if L[i].kind = 2 then 1 else 0) by
            rw [List.take_succ_eq_append_getElem hlt, List.map_append, HCA.out, HCB.out]
            simp only [calledN, answeredN, List.countP_append, List.map_cons, List.map_nil, List.countP_cons, List.countP_nil, kc, decide_eq_true_eq]
            exact ⟨by omega, by omega⟩)
          obtain ⟨kd, hkd⟩ : ∃ kd, kd = L[i].kind := ⟨_, rfl⟩
          rw [← hkd] at k0 HCT
          clear r0 hkd
          have HLT := Lib.hid hlt
          have i0 : (0 : Int) ≤ (i : Int) := by omega
          have i1 : (i : Int) < (L.length : Int) := by omega
          by_cases h1 : kd = 1
          · subst h1
            go_wp2_with fail
            go_roundg (L.length - (i + 1))
            case measure => have := HK.out; have := HLT.out; omega
            case rel => exact ⟨i + 1, a + 1, b, HLT.out, rfl, by go_num, by go_num, rfl, HCT.out.1.symm, HCT.out.2.symm, rfl⟩
          · by_cases h2 : kd = 2
            · subst h2
              clear h1
              go_wp2_with fail
              go_roundg (L.length - (i + 1))
              case measure => have := HK.out; have := HLT.out; omega
              case rel => exact ⟨i + 1, a, b + 1, HLT.out, rfl, by go_num, rfl, by go_num, HCT.out.1.symm, HCT.out.2.symm, rfl⟩
            · have HCT2 := Lib.hid (show a = calledN ((L.take (i + 1)).map kc) ∧ b = answeredN ((L.take (i + 1)).map kc) by
                have h := HCT.out
                rw [if_neg h1, if_neg h2] at h
                exact ⟨h.1.symm, h.2.symm⟩)
              go_wp2_with fail
              go_roundg (L.length - (i + 1))
              case measure => have := HK.out; have := HLT.out; omega
              case rel => exact ⟨i + 1, a, b, HLT.out, rfl, by go_num, rfl, rfl, HCT2.out.1, HCT2.out.2, rfl⟩
        · have hge : L.length ≤ i := by omega
          have hdec : decide (i < L.length) = false := decide_eq_false (by omega)
          have hA : a = H.length := by
            have h := HCA.out
            rw [List.take_of_length_le hge] at h
            rw [h, HLN.out]
          have hB : b = answeredN (L.map kc) := by
            have h := HCB.out
            rwa [List.take_of_length_le hge] at h
          subst hA
          have HBB := Lib.hid hB
          clear hB hlt HCA HCB
          go_wp2_with fail
          go_loopg [8, 10] H.length (fun k s8 s10 wz => ∃ (i d : Nat), i ≤ H.length ∧ k = H.length - i ∧ s10 = .int .i64 (i : Int) ∧ s8 = .int .i64 (d : Int) ∧ d = endedN ((H.take i).map Ho.plain) ∧ Below wr.heap.size wr wz)
          case atStart => exact ⟨0, 0, Nat.zero_le _, by omega, rfl, rfl, rfl, Below.refl _ _⟩
          case round =>
            obtain ⟨i2, d, hi2, hk2, rfl, rfl, hd, hb2⟩ := hrel
            have HK2 := Lib.hid hk2
            have HD := Lib.hid hd
            have HB2 := Lib.hid hb2
            have hd60 : d ≤ 60 := by rw [hd]; exact Nat.le_trans List.countP_le_length (by simp; omega)
            clear hk2 hd hb2
            by_cases hlt : i2 < H.length
            · obtain ⟨gx, cx2, e, hbx, _⟩ := own_form HO.out (by omega)
              cases e
              have O2 := Lib.hid (own_below HO.out HB2.out)
              obtain ⟨tw, htw⟩ : ∃ tw, tw = (H[i2]'hlt).tw := ⟨_, rfl⟩
              have r7 : wr.cell? ⟨gx, i2 * 8 + 7, none⟩ = some (.int .i64 tw) := by rw [htw]; exact (Ho.row O2.out i2 hlt).2.2.2.2.2.2.2
              have HCT := Lib.hid (show endedN ((H.take (i2 + 1)).map Ho.plain) = d + (if 0 ≤ tw then 1 else 0) by
                rw [htw]
                rw [List.take_succ_eq_append_getElem hlt, List.map_append, HD.out]
                simp only [endedN, List.countP_append, List.map_cons, List.map_nil, List.countP_cons, List.countP_nil, Ho.plain, decide_eq_true_eq]
                omega)
              have HLT := Lib.hid hlt
              clear htw
              have i0 : (0 : Int) ≤ (i2 : Int) := by omega
              have i1 : (i2 : Int) < (H.length : Int) := by omega
              go_upto_if 61 with fail
              go_cut [8] (fun s8 wx => ∃ d2 : Nat, s8 = .int .i64 (d2 : Int) ∧ d2 = endedN ((H.take (i2 + 1)).map Ho.plain) ∧ wx = wr)
              case first =>
                by_cases htw : 0 ≤ tw
                · have HCT2 := Lib.hid (show d + 1 = endedN ((H.take (i2 + 1)).map Ho.plain) by rw [HCT.out, if_pos htw])
                  go_wp2_with fail
                  go_meet
                  exact ⟨d + 1, by go_num, HCT2.out, rfl⟩
                · have HCT2 := Lib.hid (show d = endedN ((H.take (i2 + 1)).map Ho.plain) by rw [HCT.out, if_neg htw, Nat.add_zero])
                  go_wp2_with fail
                  go_meet
                  exact ⟨d, rfl, HCT2.out, rfl⟩
              case rest =>
                obtain ⟨d2, rfl, hd2, rfl⟩ := hcut
                have HD2 := Lib.hid hd2
                clear hd2 r7 HCT
                go_wp2_with fail
                go_loopg [11] i2 (fun k s11 wy => ∃ q : Nat, q ≤ i2 ∧ k = i2 - q ∧ s11 = .int .i64 (q : Int) ∧ Below wc.heap.size wc wy)
                case atStart => exact ⟨0, Nat.zero_le _, by omega, rfl, Below.refl _ _⟩
                case round =>
                  obtain ⟨q, hq, hk3, rfl, hb3⟩ := hrel
                  have HK3 := Lib.hid hk3
                  have HB3 := Lib.hid hb3
                  clear hk3 hb3
                  by_cases hqi : q < i2
                  · have O3 := Lib.hid (own_below O2.out HB3.out)
                    have hqH : q < H.length := by have := HLT.out; omega
                    have hiH := HLT.out
                    obtain ⟨p1, e1⟩ := plain_get HH.out i2 hiH
                    obtain ⟨p2, e2⟩ := plain_get HH.out q hqH
                    have hfr := HINV.out.inc q i2 p1 hqi
                    have hap := HINV.out.apart q i2 p1 hqi
                    simp only [e1, e2] at hfr hap
                    have ri := Ho.row O3.out i2 hiH
                    have rq := Ho.row O3.out q hqH
                    obtain ⟨ci, hci⟩ : ∃ ci, ci = (H[i2]'hiH).c := ⟨_, rfl⟩
                    obtain ⟨cl, hcl⟩ : ∃ cl, cl = (H[q]'hqH).c := ⟨_, rfl⟩
                    obtain ⟨fi, hfi⟩ : ∃ fi, fi = (H[i2]'hiH).frm := ⟨_, rfl⟩
                    obtain ⟨fq, hfq⟩ : ∃ fq, fq = (H[q]'hqH).frm := ⟨_, rfl⟩
                    have Ki0 : wr.cell? ⟨gx, i2 * 8, none⟩ = some (.int .i64 ci) := by rw [hci]; exact ri.1
                    have Kq0 : wr.cell? ⟨gx, q * 8, none⟩ = some (.int .i64 cl) := by rw [hcl]; exact rq.1
                    have Ki6 : wr.cell? ⟨gx, i2 * 8 + 6, none⟩ = some (.int .i64 fi) := by rw [hfi]; exact ri.2.2.2.2.2.2.1
                    have Kq6 : wr.cell? ⟨gx, q * 8 + 6, none⟩ = some (.int .i64 fq) := by rw [hfq]; exact rq.2.2.2.2.2.2.1
                    have hlt6 : fq < fi := by rw [hfi, hfq]; exact hfr
                    have hn6 : ¬ fi ≤ fq := by omega
                    obtain ⟨agq, hagq⟩ : ∃ agq : Array Value, agq = #[.int .i64 (H[q]'hqH).c, (H[q]'hqH).a1, (H[q]'hqH).a2, (H[q]'hqH).a3, (H[q]'hqH).a4, (H[q]'hqH).a5, .int .i64 (H[q]'hqH).frm, .int .i64 (H[q]'hqH).tw] := ⟨_, rfl⟩
                    obtain ⟨agi, hagi⟩ : ∃ agi : Array Value, agi = #[.int .i64 (H[i2]'hiH).c, (H[i2]'hiH).a1, (H[i2]'hiH).a2, (H[i2]'hiH).a3, (H[i2]'hiH).a4, (H[i2]'hiH).a5, .int .i64 (H[i2]'hiH).frm, .int .i64 (H[i2]'hiH).tw] := ⟨_, rfl⟩
                    have HAQ := Lib.hid hagq
                    have HAI := Lib.hid hagi
                    have HQ8 := Lib.hid rq
                    have HI8 := Lib.hid ri
                    have HBF := Lib.hid (show cl = ci → ∀ w', Calls Try.prog 36 #[.agg agq, .agg agi] w' fun e w2 => e = .returned (.bool true) ∧ Below w'.heap.size w' w2 from fun e w' => by
                      have h := hap (by rw [← hci, ← hcl, e])
                      rw [hagq, hagi]
                      exact before_yes _ _ _ _ _ _ _ _ _ _ _ _ _ _ _ _ w' h.1 h.2)
                    have q0 : (0 : Int) ≤ (q : Int) := by omega
                    have q1 : (q : Int) < (H.length : Int) := by omega
                    have HQI := Lib.hid hqi
                    clear hagq hagi rq ri hfr hap e1 e2 p1 p2 hci hcl hfi hfq
                    go_upto_region 23 with fail
                    go_cut [104] (fun s104 wx => s104 = .bool false ∧ Below wr.heap.size wr wx)
                    case first =>
                      by_cases hcc : cl = ci
                      · have HBF2 := Lib.hid (HBF.out hcc)
                        rw [← hcc] at Ki0
                        clear hcc
                        refine region_by (fun w' => Below wr.heap.size wr w') [(fun v _ => v = .slice (some ⟨gx, 0, none⟩) H.length cx), (fun v _ => v = .int .i64 (i2 : Int)), (fun v _ => v = .pointer (some ⟨gx, i2 * 8, none⟩)), (fun v _ => v = .pointer (some ⟨gx, i2 * 8, none⟩)), (fun v _ => v = .int .i64 cl), (fun v _ => v = .slice (some ⟨gx, 0, none⟩) H.length cx), (fun v _ => v = .int .i64 (q : Int)), (fun v _ => v = .pointer (some ⟨gx, q * 8, none⟩)), (fun v _ => v = .pointer (some ⟨gx, q * 8, none⟩)), (fun v _ => v = .int .i64 cl), (fun v _ => v = .bool true), (fun v _ => v = .bool true), (fun v _ => v = .slice (some ⟨gx, 0, none⟩) H.length cx), (fun v _ => v = .int .i64 (q : Int)), (fun v _ => v = .pointer (some ⟨gx, q * 8, none⟩)), fun v _ => v = .agg agq, (fun v _ => v = .slice (some ⟨gx, 0, none⟩) H.length cx), (fun v _ => v = .int .i64 (i2 : Int)), (fun v _ => v = .pointer (some ⟨gx, i2 * 8, none⟩)), fun v _ => v = .agg agi, fun v _ => v = .bool true, (fun v _ => v = .bool false), (fun v _ => v = .bool false), (fun v _ => v = .bool false), (fun v _ => v = .slice (some ⟨gx, 0, none⟩) H.length cx), (fun v _ => v = .int .i64 (q : Int)), (fun v _ => v = .pointer (some ⟨gx, q * 8, none⟩)), (fun v _ => v = .pointer (some ⟨gx, q * 8 + 6, none⟩)), (fun v _ => v = .int .i64 fq), (fun v _ => v = .slice (some ⟨gx, 0, none⟩) H.length cx), (fun v _ => v = .int .i64 (i2 : Int)), (fun v _ => v = .pointer (some ⟨gx, i2 * 8, none⟩)), (fun v _ => v = .pointer (some ⟨gx, i2 * 8 + 6, none⟩)), (fun v _ => v = .int .i64 fi), (fun v _ => v = .bool false), (fun v _ => v = .bool false)] (by kernel_rfl) (by kernel_rfl) (by kernel_rfl) rfl ((Below.refl _ _).drew) ?ok23 ?fin23
                        case ok23 =>
                          refine ⟨?_, ?_, ?_, ?_, ?_, ?_, ?_, ?_, ?_, ?_, ?_, ?_, ?_, ?_, ?_, ?_, ?_, ?_, ?_, ?_, ?_, ?_, ?_, ?_, ?_, ?_, ?_, ?_, ?_, ?_, ?_, ?_, ?_, ?_, ?_, ?_, trivial⟩
                          · intro a' w' K hI hd hq hK
                            have e3 : a'.eval (.tmp 3) = .slice (some ⟨gx, 0, none⟩) H.length cx := (hq 3 (by kernel_rfl)).trans rfl
                            clear hd hq
                            refine op_value (wanted_free _ _ (by rfl)) (v := .slice (some ⟨gx, 0, none⟩) H.length cx) (w'' := w') ?_ (hK _ _ hI (fun _ _ h => h) rfl)
                            clear hK
                            simp only [execOp, e3]
                            have f3 : a'.tmps[3]?.getD undef = .slice (some ⟨gx, 0, none⟩) H.length cx := (Array.getD_eq_getD_getElem? ..).symm.trans e3
                            clear e3
                            first | rfl | (go_simp <;> exact IntWalk.i64_in _ (by omega))
                          · intro a' w' K hI hd hq hK
                            have e10 : a'.eval (.tmp 10) = .int .i64 (i2 : Int) := (hq 10 (by kernel_rfl)).trans rfl
                            clear hd hq
                            refine op_value (wanted_free _ _ (by rfl)) (v := .int .i64 (i2 : Int)) (w'' := w') ?_ (hK _ _ hI (fun _ _ h => h) rfl)
                            clear hK
                            simp only [execOp, e10]
                            have f10 : a'.tmps[10]?.getD undef = .int .i64 (i2 : Int) := (Array.getD_eq_getD_getElem? ..).symm.trans e10
                            clear e10
                            first | rfl | (go_simp <;> exact IntWalk.i64_in _ (by omega))
                          · intro a' w' K hI hd hq hK
                            have e69 : a'.eval (.tmp 69) = .slice (some ⟨gx, 0, none⟩) H.length cx := (hd 0 69 (by kernel_rfl))
                            have e70 : a'.eval (.tmp 70) = .int .i64 (i2 : Int) := (hd 1 70 (by kernel_rfl))
                            clear hd hq
                            refine op_value (wanted_free _ _ (by rfl)) (v := .pointer (some ⟨gx, i2 * 8, none⟩)) (w'' := w') ?_ (hK _ _ hI (fun _ _ h => h) rfl)
                            clear hK
                            simp only [execOp, e69, e70]
                            have f69 : a'.tmps[69]?.getD undef = .slice (some ⟨gx, 0, none⟩) H.length cx := (Array.getD_eq_getD_getElem? ..).symm.trans e69
                            have f70 : a'.tmps[70]?.getD undef = .int .i64 (i2 : Int) := (Array.getD_eq_getD_getElem? ..).symm.trans e70
                            clear e69 e70
                            first | rfl | (go_simp <;> exact IntWalk.i64_in _ (by omega))
                          · intro a' w' K hI hd hq hK
                            have e71 : a'.eval (.tmp 71) = .pointer (some ⟨gx, i2 * 8, none⟩) := (hd 2 71 (by kernel_rfl))
                            clear hd hq
                            refine op_value (wanted_free _ _ (by rfl)) (v := .pointer (some ⟨gx, i2 * 8, none⟩)) (w'' := w') ?_ (hK _ _ hI (fun _ _ h => h) rfl)
                            clear hK
                            simp only [execOp, e71]
                            have f71 : a'.tmps[71]?.getD undef = .pointer (some ⟨gx, i2 * 8, none⟩) := (Array.getD_eq_getD_getElem? ..).symm.trans e71
                            clear e71
                            first | rfl | (go_simp <;> exact IntWalk.i64_in _ (by omega))
                          · intro a' w' K hI hd hq hK
                            have e72 : a'.eval (.tmp 72) = .pointer (some ⟨gx, i2 * 8, none⟩) := (hd 3 72 (by kernel_rfl))
                            clear hd hq
                            have c0 := cell_below hI Ki0
                            refine op_value (wanted_free _ _ (by rfl)) (v := .int .i64 cl) (w'' := w') ?_ (hK _ _ hI (fun _ _ h => h) rfl)
                            clear hK
                            simp only [execOp, e72]
                            have f72 : a'.tmps[72]?.getD undef = .pointer (some ⟨gx, i2 * 8, none⟩) := (Array.getD_eq_getD_getElem? ..).symm.trans e72
                            clear e72
                            first | rfl | (go_simp <;> exact IntWalk.i64_in _ (by omega))
                          · intro a' w' K hI hd hq hK
                            have e3 : a'.eval (.tmp 3) = .slice (some ⟨gx, 0, none⟩) H.length cx := (hq 3 (by kernel_rfl)).trans rfl
                            clear hd hq
                            refine op_value (wanted_free _ _ (by rfl)) (v := .slice (some ⟨gx, 0, none⟩) H.length cx) (w'' := w') ?_ (hK _ _ hI (fun _ _ h => h) rfl)
                            clear hK
                            simp only [execOp, e3]
                            have f3 : a'.tmps[3]?.getD undef = .slice (some ⟨gx, 0, none⟩) H.length cx := (Array.getD_eq_getD_getElem? ..).symm.trans e3
                            clear e3
                            first | rfl | (go_simp <;> exact IntWalk.i64_in _ (by omega))
                          · intro a' w' K hI hd hq hK
                            have e11 : a'.eval (.tmp 11) = .int .i64 (q : Int) := (hq 11 (by kernel_rfl)).trans rfl
                            clear hd hq
                            refine op_value (wanted_free _ _ (by rfl)) (v := .int .i64 (q : Int)) (w'' := w') ?_ (hK _ _ hI (fun _ _ h => h) rfl)
                            clear hK
                            simp only [execOp, e11]
                            have f11 : a'.tmps[11]?.getD undef = .int .i64 (q : Int) := (Array.getD_eq_getD_getElem? ..).symm.trans e11
                            clear e11
                            first | rfl | (go_simp <;> exact IntWalk.i64_in _ (by omega))
                          · intro a' w' K hI hd hq hK
                            have e74 : a'.eval (.tmp 74) = .slice (some ⟨gx, 0, none⟩) H.length cx := (hd 5 74 (by kernel_rfl))
                            have e75 : a'.eval (.tmp 75) = .int .i64 (q : Int) := (hd 6 75 (by kernel_rfl))
                            clear hd hq
                            refine op_value (wanted_free _ _ (by rfl)) (v := .pointer (some ⟨gx, q * 8, none⟩)) (w'' := w') ?_ (hK _ _ hI (fun _ _ h => h) rfl)
                            clear hK
                            simp only [execOp, e74, e75]
                            have f74 : a'.tmps[74]?.getD undef = .slice (some ⟨gx, 0, none⟩) H.length cx := (Array.getD_eq_getD_getElem? ..).symm.trans e74
                            have f75 : a'.tmps[75]?.getD undef = .int .i64 (q : Int) := (Array.getD_eq_getD_getElem? ..).symm.trans e75
                            clear e74 e75
                            first | rfl | (go_simp <;> exact IntWalk.i64_in _ (by omega))
                          · intro a' w' K hI hd hq hK
                            have e76 : a'.eval (.tmp 76) = .pointer (some ⟨gx, q * 8, none⟩) := (hd 7 76 (by kernel_rfl))
                            clear hd hq
                            refine op_value (wanted_free _ _ (by rfl)) (v := .pointer (some ⟨gx, q * 8, none⟩)) (w'' := w') ?_ (hK _ _ hI (fun _ _ h => h) rfl)
                            clear hK
                            simp only [execOp, e76]
                            have f76 : a'.tmps[76]?.getD undef = .pointer (some ⟨gx, q * 8, none⟩) := (Array.getD_eq_getD_getElem? ..).symm.trans e76
                            clear e76
                            first | rfl | (go_simp <;> exact IntWalk.i64_in _ (by omega))
                          · intro a' w' K hI hd hq hK
                            have e77 : a'.eval (.tmp 77) = .pointer (some ⟨gx, q * 8, none⟩) := (hd 8 77 (by kernel_rfl))
                            clear hd hq
                            have c0 := cell_below hI Kq0
                            refine op_value (wanted_free _ _ (by rfl)) (v := .int .i64 cl) (w'' := w') ?_ (hK _ _ hI (fun _ _ h => h) rfl)
                            clear hK
                            simp only [execOp, e77]
                            have f77 : a'.tmps[77]?.getD undef = .pointer (some ⟨gx, q * 8, none⟩) := (Array.getD_eq_getD_getElem? ..).symm.trans e77
                            clear e77
                            first | rfl | (go_simp <;> exact IntWalk.i64_in _ (by omega))
                          · intro a' w' K hI hd hq hK
                            have e73 : a'.eval (.tmp 73) = .int .i64 cl := (hd 4 73 (by kernel_rfl))
                            have e78 : a'.eval (.tmp 78) = .int .i64 cl := (hd 9 78 (by kernel_rfl))
                            clear hd hq
                            refine op_value (wanted_free _ _ (by rfl)) (v := .bool true) (w'' := w') ?_ (hK _ _ hI (fun _ _ h => h) rfl)
                            clear hK
                            simp only [execOp, e73, e78]
                            have f73 : a'.tmps[73]?.getD undef = .int .i64 cl := (Array.getD_eq_getD_getElem? ..).symm.trans e73
                            have f78 : a'.tmps[78]?.getD undef = .int .i64 cl := (Array.getD_eq_getD_getElem? ..).symm.trans e78
                            clear e73 e78
                            first | rfl | (go_simp <;> exact IntWalk.i64_in _ (by omega))
                          · intro a' w' K hI hd hq hK
                            have e79 : a'.eval (.tmp 79) = .bool true := (hd 10 79 (by kernel_rfl))
                            clear hd hq
                            refine op_value (wanted_free _ _ (by rfl)) (v := .bool true) (w'' := w') ?_ (hK _ _ hI (fun _ _ h => h) rfl)
                            clear hK
                            simp only [execOp, e79]
                            have f79 : a'.tmps[79]?.getD undef = .bool true := (Array.getD_eq_getD_getElem? ..).symm.trans e79
                            clear e79
                            first | rfl | (go_simp <;> exact IntWalk.i64_in _ (by omega))
                          · intro a' w' K hI hd hq hK
                            have hg := hd 11 80 (by kernel_rfl)
                            have e3 : a'.eval (.tmp 3) = .slice (some ⟨gx, 0, none⟩) H.length cx := (hq 3 (by kernel_rfl)).trans rfl
                            clear hd hq
                            refine op_value (wanted_on _ a' 11 80 true (by rfl) (by rfl) hg) (v := .slice (some ⟨gx, 0, none⟩) H.length cx) (w'' := w') ?_ (hK _ _ hI (fun _ _ h => h) rfl)
                            clear hK
                            simp only [execOp, e3]
                            have f3 : a'.tmps[3]?.getD undef = .slice (some ⟨gx, 0, none⟩) H.length cx := (Array.getD_eq_getD_getElem? ..).symm.trans e3
                            clear e3
                            first | rfl | (go_simp <;> exact IntWalk.i64_in _ (by omega))
                          · intro a' w' K hI hd hq hK
                            have hg := hd 11 80 (by kernel_rfl)
                            have e11 : a'.eval (.tmp 11) = .int .i64 (q : Int) := (hq 11 (by kernel_rfl)).trans rfl
                            clear hd hq
                            refine op_value (wanted_on _ a' 11 80 true (by rfl) (by rfl) hg) (v := .int .i64 (q : Int)) (w'' := w') ?_ (hK _ _ hI (fun _ _ h => h) rfl)
                            clear hK
                            simp only [execOp, e11]
                            have f11 : a'.tmps[11]?.getD undef = .int .i64 (q : Int) := (Array.getD_eq_getD_getElem? ..).symm.trans e11
                            clear e11
                            first | rfl | (go_simp <;> exact IntWalk.i64_in _ (by omega))
                          · intro a' w' K hI hd hq hK
                            have hg := hd 11 80 (by kernel_rfl)
                            have e81 : a'.eval (.tmp 81) = .slice (some ⟨gx, 0, none⟩) H.length cx := (hd 12 81 (by kernel_rfl))
                            have e82 : a'.eval (.tmp 82) = .int .i64 (q : Int) := (hd 13 82 (by kernel_rfl))
                            clear hd hq
                            refine op_value (wanted_on _ a' 11 80 true (by rfl) (by rfl) hg) (v := .pointer (some ⟨gx, q * 8, none⟩)) (w'' := w') ?_ (hK _ _ hI (fun _ _ h => h) rfl)
                            clear hK
                            simp only [execOp, e81, e82]
                            have f81 : a'.tmps[81]?.getD undef = .slice (some ⟨gx, 0, none⟩) H.length cx := (Array.getD_eq_getD_getElem? ..).symm.trans e81
                            have f82 : a'.tmps[82]?.getD undef = .int .i64 (q : Int) := (Array.getD_eq_getD_getElem? ..).symm.trans e82
                            clear e81 e82
                            first | rfl | (go_simp <;> exact IntWalk.i64_in _ (by omega))
                          · intro a' w' K hI hd hq hK
                            have hg := hd 11 80 (by kernel_rfl)
                            have e83 : a'.eval (.tmp 83) = .pointer (some ⟨gx, q * 8, none⟩) := (hd 14 83 (by kernel_rfl))
                            clear hd hq
                            refine op_value (wanted_on _ a' 11 80 true (by rfl) (by rfl) hg) (v := .agg agq) (w'' := w') ?_ (hK _ _ hI (fun _ _ h => h) rfl)
                            simp only [execOp, e83]
                            have c0 := cell_below hI HQ8.out.1
                            have c1 := cell_below hI HQ8.out.2.1
                            have c2 := cell_below hI HQ8.out.2.2.1
                            have c3 := cell_below hI HQ8.out.2.2.2.1
                            have c4 := cell_below hI HQ8.out.2.2.2.2.1
                            have c5 := cell_below hI HQ8.out.2.2.2.2.2.1
                            have c6 := cell_below hI HQ8.out.2.2.2.2.2.2.1
                            have c7 := cell_below hI HQ8.out.2.2.2.2.2.2.2
                            clear hK
                            go_simp
                            rw [HAQ.out]
                          · intro a' w' K hI hd hq hK
                            have hg := hd 11 80 (by kernel_rfl)
                            have e3 : a'.eval (.tmp 3) = .slice (some ⟨gx, 0, none⟩) H.length cx := (hq 3 (by kernel_rfl)).trans rfl
                            clear hd hq
                            refine op_value (wanted_on _ a' 11 80 true (by rfl) (by rfl) hg) (v := .slice (some ⟨gx, 0, none⟩) H.length cx) (w'' := w') ?_ (hK _ _ hI (fun _ _ h => h) rfl)
                            clear hK
                            simp only [execOp, e3]
                            have f3 : a'.tmps[3]?.getD undef = .slice (some ⟨gx, 0, none⟩) H.length cx := (Array.getD_eq_getD_getElem? ..).symm.trans e3
                            clear e3
                            first | rfl | (go_simp <;> exact IntWalk.i64_in _ (by omega))
                          · intro a' w' K hI hd hq hK
                            have hg := hd 11 80 (by kernel_rfl)
                            have e10 : a'.eval (.tmp 10) = .int .i64 (i2 : Int) := (hq 10 (by kernel_rfl)).trans rfl
                            clear hd hq
                            refine op_value (wanted_on _ a' 11 80 true (by rfl) (by rfl) hg) (v := .int .i64 (i2 : Int)) (w'' := w') ?_ (hK _ _ hI (fun _ _ h => h) rfl)
                            clear hK
                            simp only [execOp, e10]
                            have f10 : a'.tmps[10]?.getD undef = .int .i64 (i2 : Int) := (Array.getD_eq_getD_getElem? ..).symm.trans e10
                            clear e10
                            first | rfl | (go_simp <;> exact IntWalk.i64_in _ (by omega))
                          · intro a' w' K hI hd hq hK
                            have hg := hd 11 80 (by kernel_rfl)
                            have e85 : a'.eval (.tmp 85) = .slice (some ⟨gx, 0, none⟩) H.length cx := (hd 16 85 (by kernel_rfl))
                            have e86 : a'.eval (.tmp 86) = .int .i64 (i2 : Int) := (hd 17 86 (by kernel_rfl))
                            clear hd hq
                            refine op_value (wanted_on _ a' 11 80 true (by rfl) (by rfl) hg) (v := .pointer (some ⟨gx, i2 * 8, none⟩)) (w'' := w') ?_ (hK _ _ hI (fun _ _ h => h) rfl)
                            clear hK
                            simp only [execOp, e85, e86]
                            have f85 : a'.tmps[85]?.getD undef = .slice (some ⟨gx, 0, none⟩) H.length cx := (Array.getD_eq_getD_getElem? ..).symm.trans e85
                            have f86 : a'.tmps[86]?.getD undef = .int .i64 (i2 : Int) := (Array.getD_eq_getD_getElem? ..).symm.trans e86
                            clear e85 e86
                            first | rfl | (go_simp <;> exact IntWalk.i64_in _ (by omega))
                          · intro a' w' K hI hd hq hK
                            have hg := hd 11 80 (by kernel_rfl)
                            have e87 : a'.eval (.tmp 87) = .pointer (some ⟨gx, i2 * 8, none⟩) := (hd 18 87 (by kernel_rfl))
                            clear hd hq
                            refine op_value (wanted_on _ a' 11 80 true (by rfl) (by rfl) hg) (v := .agg agi) (w'' := w') ?_ (hK _ _ hI (fun _ _ h => h) rfl)
                            simp only [execOp, e87]
                            have c0 := cell_below hI HI8.out.1
                            have c1 := cell_below hI HI8.out.2.1
                            have c2 := cell_below hI HI8.out.2.2.1
                            have c3 := cell_below hI HI8.out.2.2.2.1
                            have c4 := cell_below hI HI8.out.2.2.2.2.1
                            have c5 := cell_below hI HI8.out.2.2.2.2.2.1
                            have c6 := cell_below hI HI8.out.2.2.2.2.2.2.1
                            have c7 := cell_below hI HI8.out.2.2.2.2.2.2.2
                            clear hK
                            go_simp
                            rw [HAI.out]
                          · intro a' w' K hI hd hq hK
                            have hg := hd 11 80 (by kernel_rfl)
                            have e84 : a'.eval (.tmp 84) = .agg agq := (hd 15 84 (by kernel_rfl))
                            have e88 : a'.eval (.tmp 88) = .agg agi := (hd 19 88 (by kernel_rfl))
                            clear hd hq
                            refine op_call #[.agg agq, .agg agi] (wanted_on _ a' 11 80 true (by rfl) (by rfl) hg) rfl Try.func36 (by kernel_rfl) rfl (by simp [e84, e88]) ?_
                            refine (HBF2.out w').mono ?_
                            rintro e w7 ⟨rfl, hb⟩
                            exact ⟨_, rfl, hK _ _ (below_below hI hI.size hb) (fun j u => by match j with | 0 | 1 | 2 | 3 | 4 | 5 | 6 | 7 | 8 | 9 | 10 | 11 | 12 | 13 | 14 | 15 | 16 | 17 | 18 | 19 | 20 | 21 | 22 | 23 | 24 | 25 | 26 | 27 | 28 | 29 | 30 | 31 | 32 | 33 | 34 | 35 => exact fun h => h | _ + 36 => exact fun _ => trivial) rfl⟩
                          · intro a' w' K hI hd hq hK
                            have hg := hd 11 80 (by kernel_rfl)
                            have e89 : a'.eval (.tmp 89) = .bool true := (hd 20 89 (by kernel_rfl))
                            clear hd hq
                            refine op_value (wanted_on _ a' 11 80 true (by rfl) (by rfl) hg) (v := .bool false) (w'' := w') ?_ (hK _ _ hI (fun _ _ h => h) rfl)
                            clear hK
                            simp only [execOp, e89]
                            have f89 : a'.tmps[89]?.getD undef = .bool true := (Array.getD_eq_getD_getElem? ..).symm.trans e89
                            clear e89
                            first | rfl | (go_simp <;> exact IntWalk.i64_in _ (by omega))
                          · intro a' w' K hI hd hq hK
                            have e80 : a'.eval (.tmp 80) = .bool true := (hd 11 80 (by kernel_rfl))
                            have e90 : a'.eval (.tmp 90) = .bool false := (hd 21 90 (by kernel_rfl))
                            clear hd hq
                            refine op_value (wanted_free _ _ (by rfl)) (v := .bool false) (w'' := w') ?_ (hK _ _ hI (fun _ _ h => h) rfl)
                            clear hK
                            simp only [execOp, e80, e90]
                            have f80 : a'.tmps[80]?.getD undef = .bool true := (Array.getD_eq_getD_getElem? ..).symm.trans e80
                            have f90 : a'.tmps[90]?.getD undef = .bool false := (Array.getD_eq_getD_getElem? ..).symm.trans e90
                            clear e80 e90
                            first | rfl | (go_simp <;> exact IntWalk.i64_in _ (by omega))
                          · intro a' w' K hI hd hq hK
                            have e91 : a'.eval (.tmp 91) = .bool false := (hd 22 91 (by kernel_rfl))
                            clear hd hq
                            refine op_value (wanted_free _ _ (by rfl)) (v := .bool false) (w'' := w') ?_ (hK _ _ hI (fun _ _ h => h) rfl)
                            clear hK
                            simp only [execOp, e91]
                            have f91 : a'.tmps[91]?.getD undef = .bool false := (Array.getD_eq_getD_getElem? ..).symm.trans e91
                            clear e91
                            first | rfl | (go_simp <;> exact IntWalk.i64_in _ (by omega))
                          · intro a' w' K hI hd hq hK
                            have hg := hd 23 92 (by kernel_rfl)
                            have e3 : a'.eval (.tmp 3) = .slice (some ⟨gx, 0, none⟩) H.length cx := (hq 3 (by kernel_rfl)).trans rfl
                            clear hd hq
                            refine op_value (wanted_on _ a' 23 92 false (by rfl) (by rfl) hg) (v := .slice (some ⟨gx, 0, none⟩) H.length cx) (w'' := w') ?_ (hK _ _ hI (fun _ _ h => h) rfl)
                            clear hK
                            simp only [execOp, e3]
                            have f3 : a'.tmps[3]?.getD undef = .slice (some ⟨gx, 0, none⟩) H.length cx := (Array.getD_eq_getD_getElem? ..).symm.trans e3
                            clear e3
                            first | rfl | (go_simp <;> exact IntWalk.i64_in _ (by omega))
                          · intro a' w' K hI hd hq hK
                            have hg := hd 23 92 (by kernel_rfl)
                            have e11 : a'.eval (.tmp 11) = .int .i64 (q : Int) := (hq 11 (by kernel_rfl)).trans rfl
                            clear hd hq
                            refine op_value (wanted_on _ a' 23 92 false (by rfl) (by rfl) hg) (v := .int .i64 (q : Int)) (w'' := w') ?_ (hK _ _ hI (fun _ _ h => h) rfl)
                            clear hK
                            simp only [execOp, e11]
                            have f11 : a'.tmps[11]?.getD undef = .int .i64 (q : Int) := (Array.getD_eq_getD_getElem? ..).symm.trans e11
                            clear e11
                            first | rfl | (go_simp <;> exact IntWalk.i64_in _ (by omega))
                          · intro a' w' K hI hd hq hK
                            have hg := hd 23 92 (by kernel_rfl)
                            have e93 : a'.eval (.tmp 93) = .slice (some ⟨gx, 0, none⟩) H.length cx := (hd 24 93 (by kernel_rfl))
                            have e94 : a'.eval (.tmp 94) = .int .i64 (q : Int) := (hd 25 94 (by kernel_rfl))
                            clear hd hq
                            refine op_value (wanted_on _ a' 23 92 false (by rfl) (by rfl) hg) (v := .pointer (some ⟨gx, q * 8, none⟩)) (w'' := w') ?_ (hK _ _ hI (fun _ _ h => h) rfl)
                            clear hK
                            simp only [execOp, e93, e94]
                            have f93 : a'.tmps[93]?.getD undef = .slice (some ⟨gx, 0, none⟩) H.length cx := (Array.getD_eq_getD_getElem? ..).symm.trans e93
                            have f94 : a'.tmps[94]?.getD undef = .int .i64 (q : Int) := (Array.getD_eq_getD_getElem? ..).symm.trans e94
                            clear e93 e94
                            first | rfl | (go_simp <;> exact IntWalk.i64_in _ (by omega))
                          · intro a' w' K hI hd hq hK
                            have hg := hd 23 92 (by kernel_rfl)
                            have e95 : a'.eval (.tmp 95) = .pointer (some ⟨gx, q * 8, none⟩) := (hd 26 95 (by kernel_rfl))
                            clear hd hq
                            refine op_value (wanted_on _ a' 23 92 false (by rfl) (by rfl) hg) (v := .pointer (some ⟨gx, q * 8 + 6, none⟩)) (w'' := w') ?_ (hK _ _ hI (fun _ _ h => h) rfl)
                            clear hK
                            simp only [execOp, e95]
                            have f95 : a'.tmps[95]?.getD undef = .pointer (some ⟨gx, q * 8, none⟩) := (Array.getD_eq_getD_getElem? ..).symm.trans e95
                            clear e95
                            first | rfl | (go_simp <;> exact IntWalk.i64_in _ (by omega))
                          · intro a' w' K hI hd hq hK
                            have hg := hd 23 92 (by kernel_rfl)
                            have e96 : a'.eval (.tmp 96) = .pointer (some ⟨gx, q * 8 + 6, none⟩) := (hd 27 96 (by kernel_rfl))
                            clear hd hq
                            have c0 := cell_below hI Kq6
                            refine op_value (wanted_on _ a' 23 92 false (by rfl) (by rfl) hg) (v := .int .i64 fq) (w'' := w') ?_ (hK _ _ hI (fun _ _ h => h) rfl)
                            clear hK
                            simp only [execOp, e96]
                            have f96 : a'.tmps[96]?.getD undef = .pointer (some ⟨gx, q * 8 + 6, none⟩) := (Array.getD_eq_getD_getElem? ..).symm.trans e96
                            clear e96
                            first | rfl | (go_simp <;> exact IntWalk.i64_in _ (by omega))
                          · intro a' w' K hI hd hq hK
                            have hg := hd 23 92 (by kernel_rfl)
                            have e3 : a'.eval (.tmp 3) = .slice (some ⟨gx, 0, none⟩) H.length cx := (hq 3 (by kernel_rfl)).trans rfl
                            clear hd hq
                            refine op_value (wanted_on _ a' 23 92 false (by rfl) (by rfl) hg) (v := .slice (some ⟨gx, 0, none⟩) H.length cx) (w'' := w') ?_ (hK _ _ hI (fun _ _ h => h) rfl)
                            clear hK
                            simp only [execOp, e3]
                            have f3 : a'.tmps[3]?.getD undef = .slice (some ⟨gx, 0, none⟩) H.length cx := (Array.getD_eq_getD_getElem? ..).symm.trans e3
                            clear e3
                            first | rfl | (go_simp <;> exact IntWalk.i64_in _ (by omega))
                          · intro a' w' K hI hd hq hK
                            have hg := hd 23 92 (by kernel_rfl)
                            have e10 : a'.eval (.tmp 10) = .int .i64 (i2 : Int) := (hq 10 (by kernel_rfl)).trans rfl
                            clear hd hq
                            refine op_value (wanted_on _ a' 23 92 false (by rfl) (by rfl) hg) (v := .int .i64 (i2 : Int)) (w'' := w') ?_ (hK _ _ hI (fun _ _ h => h) rfl)
                            clear hK
                            simp only [execOp, e10]
                            have f10 : a'.tmps[10]?.getD undef = .int .i64 (i2 : Int) := (Array.getD_eq_getD_getElem? ..).symm.trans e10
                            clear e10
                            first | rfl | (go_simp <;> exact IntWalk.i64_in _ (by omega))
                          · intro a' w' K hI hd hq hK
                            have hg := hd 23 92 (by kernel_rfl)
                            have e98 : a'.eval (.tmp 98) = .slice (some ⟨gx, 0, none⟩) H.length cx := (hd 29 98 (by kernel_rfl))
                            have e99 : a'.eval (.tmp 99) = .int .i64 (i2 : Int) := (hd 30 99 (by kernel_rfl))
                            clear hd hq
                            refine op_value (wanted_on _ a' 23 92 false (by rfl) (by rfl) hg) (v := .pointer (some ⟨gx, i2 * 8, none⟩)) (w'' := w') ?_ (hK _ _ hI (fun _ _ h => h) rfl)
                            clear hK
                            simp only [execOp, e98, e99]
                            have f98 : a'.tmps[98]?.getD undef = .slice (some ⟨gx, 0, none⟩) H.length cx := (Array.getD_eq_getD_getElem? ..).symm.trans e98
                            have f99 : a'.tmps[99]?.getD undef = .int .i64 (i2 : Int) := (Array.getD_eq_getD_getElem? ..).symm.trans e99
                            clear e98 e99
                            first | rfl | (go_simp <;> exact IntWalk.i64_in _ (by omega))
                          · intro a' w' K hI hd hq hK
                            have hg := hd 23 92 (by kernel_rfl)
                            have e100 : a'.eval (.tmp 100) = .pointer (some ⟨gx, i2 * 8, none⟩) := (hd 31 100 (by kernel_rfl))
                            clear hd hq
                            refine op_value (wanted_on _ a' 23 92 false (by rfl) (by rfl) hg) (v := .pointer (some ⟨gx, i2 * 8 + 6, none⟩)) (w'' := w') ?_ (hK _ _ hI (fun _ _ h => h) rfl)
                            clear hK
                            simp only [execOp, e100]
                            have f100 : a'.tmps[100]?.getD undef = .pointer (some ⟨gx, i2 * 8, none⟩) := (Array.getD_eq_getD_getElem? ..).symm.trans e100
                            clear e100
                            first | rfl | (go_simp <;> exact IntWalk.i64_in _ (by omega))
                          · intro a' w' K hI hd hq hK
                            have hg := hd 23 92 (by kernel_rfl)
                            have e101 : a'.eval (.tmp 101) = .pointer (some ⟨gx, i2 * 8 + 6, none⟩) := (hd 32 101 (by kernel_rfl))
                            clear hd hq
                            have c0 := cell_below hI Ki6
                            refine op_value (wanted_on _ a' 23 92 false (by rfl) (by rfl) hg) (v := .int .i64 fi) (w'' := w') ?_ (hK _ _ hI (fun _ _ h => h) rfl)
                            clear hK
                            simp only [execOp, e101]
                            have f101 : a'.tmps[101]?.getD undef = .pointer (some ⟨gx, i2 * 8 + 6, none⟩) := (Array.getD_eq_getD_getElem? ..).symm.trans e101
                            clear e101
                            first | rfl | (go_simp <;> exact IntWalk.i64_in _ (by omega))
                          · intro a' w' K hI hd hq hK
                            have hg := hd 23 92 (by kernel_rfl)
                            have e97 : a'.eval (.tmp 97) = .int .i64 fq := (hd 28 97 (by kernel_rfl))
                            have e102 : a'.eval (.tmp 102) = .int .i64 fi := (hd 33 102 (by kernel_rfl))
                            clear hd hq
                            refine op_value (wanted_on _ a' 23 92 false (by rfl) (by rfl) hg) (v := .bool false) (w'' := w') ?_ (hK _ _ hI (fun _ _ h => h) rfl)
                            clear hK
                            simp only [execOp, e97, e102]
                            have f97 : a'.tmps[97]?.getD undef = .int .i64 fq := (Array.getD_eq_getD_getElem? ..).symm.trans e97
                            have f102 : a'.tmps[102]?.getD undef = .int .i64 fi := (Array.getD_eq_getD_getElem? ..).symm.trans e102
                            clear e97 e102
                            first | rfl | (go_simp <;> exact IntWalk.i64_in _ (by omega))
                          · intro a' w' K hI hd hq hK
                            have e92 : a'.eval (.tmp 92) = .bool false := (hd 23 92 (by kernel_rfl))
                            have e103 : a'.eval (.tmp 103) = .bool false := (hd 34 103 (by kernel_rfl))
                            clear hd hq
                            refine op_value (wanted_free _ _ (by rfl)) (v := .bool false) (w'' := w') ?_ (hK _ _ hI (fun _ _ h => h) rfl)
                            clear hK
                            simp only [execOp, e92, e103]
                            have f92 : a'.tmps[92]?.getD undef = .bool false := (Array.getD_eq_getD_getElem? ..).symm.trans e92
                            have f103 : a'.tmps[103]?.getD undef = .bool false := (Array.getD_eq_getD_getElem? ..).symm.trans e103
                            clear e92 e103
                            first | rfl | (go_simp <;> exact IntWalk.i64_in _ (by omega))
                        case fin23 =>
                          rintro w' hI _ rfl _ rfl _ rfl _ rfl _ rfl _ rfl _ rfl _ rfl _ rfl _ rfl _ rfl _ rfl _ rfl _ rfl _ rfl _ rfl _ rfl _ rfl _ rfl _ rfl _ rfl _ rfl _ rfl _ rfl _ rfl _ rfl _ rfl _ rfl _ rfl _ rfl _ rfl _ rfl _ rfl _ rfl _ rfl _ rfl
                          simp only [Act.put, List.setIfInBounds_toArray, List.set_cons_zero, List.set_cons_succ, FinGoal]
                          go_wp2_with fail
                          go_meet
                          exact ⟨rfl, hI⟩
                      · have hb1 : (ci == cl) = false := by rw [beq_eq_false_iff_ne]; exact fun h => hcc h.symm
                        go_quiet (fail)
                        go_wp2_with fail
                        go_meet
                        exact ⟨rfl, ⟨rfl, rfl, rfl, Nat.le_refl _, fun _ _ => rfl⟩⟩
                    case rest =>
                      obtain ⟨rfl, hbx⟩ := hcut
                      have B4 := Lib.hid (below_below HB3.out HB3.out.size hbx)
                      clear hbx
                      go_wp2_with fail
                      go_roundg (i2 - (q + 1))
                      case measure => have := HK3.out; have := HQI.out; omega
                      case rel => exact ⟨q + 1, HQI.out, rfl, by go_num, B4.out⟩
                  · have hge3 : i2 ≤ q := by omega
                    have B4 := Lib.hid (below_below HB2.out HB2.out.size HB3.out)
                    have hdec3 : decide (q < i2) = false := decide_eq_false hqi
                    clear hqi
                    go_wp2_with fail
                    go_roundg (H.length - (i2 + 1))
                    case measure => have := HK2.out; have := HLT.out; omega
                    case rel => exact ⟨i2 + 1, d2, HLT.out, rfl, by go_num, rfl, HD2.out, B4.out⟩
            · have hge2 : H.length ≤ i2 := by omega
              have hdec2 : decide (i2 < H.length) = false := decide_eq_false hlt
              have hD : d = b := by
                have h := HD.out
                rw [List.take_of_length_le hge2] at h
                rw [h, HEND.out, HBB.out]
              subst hD
              have B5 := Lib.hid (below_below HB.out HB.out.size HB2.out)
              clear hlt
              go_wp2_with fail
              refine (known21_any _).mono ?_
              rintro e w2 ⟨rfl, hb⟩
              have B6 := Lib.hid (below_below B5.out B5.out.size hb)
              clear hb
              go_wp2_with fail
              go_ret
              exact ⟨rfl, B6.out⟩
    · have HB := Lib.hid hb
      clear hrn hb
      go_wp2_with fail
      refine (known21_any _).mono ?_
      rintro e w2 ⟨rfl, hb⟩
      have B2 := Lib.hid (below_below HB.out HB.out.size hb)
      clear hb
      go_wp2_with fail
      go_ret
      exact ⟨rfl, B2.out⟩

end Go.Proofs.Ytiefgnmekikckaa
