/-
  The walk of the law NetPlays.
-/
import Derived.Test.YtkpkimhpecbkoaaNetGood
import Derived.Deep.SlicePairs
import Derived.Deep.CutBlock
set_option linter.unusedVariables false
set_option linter.unusedSimpArgs false
namespace Go.Proofs.Ytkpkimhpecbkoaa
open Go.RowKit

set_option maxRecDepth 100000 in
set_option maxHeartbeats 16000000 in
theorem netPlays_law (nodes : Int) (A : Option Addr) (n c : Nat) (L : List Ask) (w : World) (hn0 : -9223372036854775808 ≤ nodes) (hn1 : nodes ≤ 9223372036854775807) (hl : L.length = n) (hn : n ≤ 9223372036854775807) (hr : RL w A L) (hs : ∀ q ∈ L, q.str.size ≤ 140737488351232) :
    Calls Try.prog 12 #[.int .i64 nodes, .slice A n c] w fun e w' => e = .returned (.bool true) ∧ Below w.heap.size w w' := by
  subst hl
  have HL := Lib.hid hr
  have HS := Lib.hid hs
  clear hr hs
  by_cases hok : 1 ≤ nodes ∧ nodes ≤ 5
  · obtain ⟨g1, g2⟩ := hok
    have g3 : ¬ (nodes < 1) := by omega
    have g4 : ¬ (5 < nodes) := by omega
    go_enter Try.func12, Try.ntmps12
    go_wp2_with fail
    refine (netNew_any nodes _ g1 g2).mono ?_
    rintro e w1 ⟨rfl, hn1, hb1⟩
    have hG : NG w (w1.alloc (.cells #[.int .i64 nodes, .slice none 0 0, .int .i64 0] 62)) w.heap.size w1.heap.size nodes 0 [] 0 [] := by
      have hlt := hn1.lt
      refine ⟨.slice none 0 0, .slice none 0 0, ⟨⟨[], hn1.below ((Below.refl _ _).alloc (Nat.le_refl _) _), rfl, fun m hm => by cases hm⟩, ⟨heap_alloc_new w1 _, World.ownsRow_nil _ _ _ _, by simp [Value.ownBlock], by simp, hb1.size⟩, ?_, hb1.alloc hb1.size _⟩, fun k hk => hk.elim⟩
      rintro k (hk | hk) (hf | hf)
      · omega
      · cases hf
      · cases hk
      · cases hk
    have G1 := Lib.hid hG
    clear hG hn1 hb1
    go_wp2_with fail
    generalize w1.heap.size = q at *
    go_loopg [8] 120 (fun k s8 wr => ∃ (i : Nat) (s : Int) (ms : List Pl), i ≤ L.length ∧ i ≤ 120 ∧ k = 120 - i ∧ s8 = .int .i64 (i : Int) ∧ 0 ≤ s ∧ s ≤ i ∧ NG w wr w.heap.size q nodes s ms s ms)
    case atStart => exact ⟨0, 0, [], Nat.zero_le _, by omega, by omega, rfl, by omega, by omega, G1.out⟩
    case round =>
      obtain ⟨i, s, ms, hi, hi120, hk, rfl, hs0, hs1, hg⟩ := hrel
      have HK := Lib.hid hk
      have HG := Lib.hid hg
      have HS0 := Lib.hid hs0
      have HSI := Lib.hid hs1
      have HS1 := Lib.hid (show s ≤ 1000000000 by omega)
      clear hk hg hs0 hs1 G1
      by_cases hlt : i < L.length ∧ i < 120
      · obtain ⟨hlt, hlt120⟩ := hlt
        obtain ⟨b0, o0, rfl, hcs⟩ := HL.out.parts (by omega)
        obtain ⟨a0, a1, a2, a3, a4, _, _, _, r3⟩ := hcs i hlt
        have hss := HS.out L[i] (List.getElem_mem hlt)
        rw [add_off] at a0 a1 a2 a3 a4
        rw [← Nat.add_assoc] at a1 a2 a3 a4
        have k0 := cell_below HG.out.bel a0
        have k1 := cell_below HG.out.bel a1
        have k2 := cell_below HG.out.bel a2
        have k3 := cell_below HG.out.bel a3
        have k4 := cell_below HG.out.bel a4
        clear hcs a0 a1 a2 a3 a4
        generalize L[i].kind = kind at *
        generalize L[i].frm = frm at *
        generalize L[i].dst = dst at *
        generalize L[i].num = num at *
        generalize L[i].str = str at *
        have HSS := Lib.hid hss
        have HR3 := Lib.hid r3
        have HLT := Lib.hid hlt
        have HLT120 := Lib.hid hlt120
        clear hss r3
        go_upto_block 2 with fail
        obtain ⟨wz, hwz⟩ : ∃ wz, wz = wr.alloc (.cells #[.int .i64 kind, .int .i64 frm, .int .i64 dst, .int .i64 num, .string str] 54) := ⟨_, rfl⟩
        rw [← hwz]
        have hz : wz.heap[wr.heap.size]? = some (.cells #[.int .i64 kind, .int .i64 frm, .int .i64 dst, .int .i64 num, .string str] 54 (0, 0)) := by rw [hwz]; exact heap_alloc_new wr _
        have hbz : Below wr.heap.size wr wz := by rw [hwz]; exact (Below.refl _ _).alloc (Nat.le_refl _) _
        have hfz := HG.out.fresh hbz
        have HGZ := Lib.hid hfz.1
        have HZ := Lib.hid hz
        have GZ := Lib.hid (hfz.2.2 wr.heap.size (Nat.le_refl _) (Array.getElem?_eq_some_iff.1 hz).1)
        clear hwz hz hbz hfz HG k0 k1 k2 k3 k4
        generalize wr.heap.size = z at *
        have cz0 : wz.cell? ⟨z, 0, none⟩ = some (.int .i64 kind) := (cell_of_row wz z 0 _ _ _ HZ.out).trans rfl
        have cz3 : wz.cell? ⟨z, 3, none⟩ = some (.int .i64 num) := (cell_of_row wz z 3 _ _ _ HZ.out).trans rfl
        go_cut [70] (fun s70 wx => ∃ (s' : Int) (ms' : List Pl), 0 ≤ s' ∧ s' ≤ s + 1 ∧ NG w wx w.heap.size q nodes s' ms' s' ms')
        case first =>
          by_cases hk1 : kind = 1
          · subst hk1
            obtain ⟨cd, s', ms', hR⟩ : ∃ cd s' ms', sendTo nodes s ms frm dst str.data.toList = (cd, s', ms') := ⟨_, _, _, rfl⟩
            have hle := sendTo_le nodes s ms frm dst str.data.toList
            rw [hR] at hle
            have HLE := Lib.hid (show s ≤ s' ∧ s' ≤ s + 1 from hle)
            have HR := Lib.hid hR
            clear hR hle
            go_upto_region 15 with fail
            refine region_byL (NI w w.heap.size q z (.cells #[.int .i64 1, .int .i64 frm, .int .i64 dst, .int .i64 num, .string str] 54 (0, 0)) nodes 8 16 s ms s' ms') [(fun v _ => v = .pointer (some ⟨w.heap.size, 0, none⟩)), (fun v _ => v = .pointer (some ⟨z, 1, none⟩)), (fun v _ => v = .int .i64 frm), (fun v _ => v = .pointer (some ⟨z, 2, none⟩)), (fun v _ => v = .int .i64 dst), (fun v _ => v = .pointer (some ⟨z, 4, none⟩)), (fun v _ => v = .string str), fun v w' => ∃ A7 c7, v = .slice A7 str.size c7 ∧ RB w' A7 str.data.toList ∧ (A7 = none → c7 = 0) ∧ (0 < str.data.toList.length → ∀ ad, A7 = some ad → Good w.heap.size q w' ad.block), fun v _ => v = .int .i64 cd, (fun v _ => v = .pointer (some ⟨q, 0, none⟩)), (fun v _ => v = .pointer (some ⟨z, 1, none⟩)), (fun v _ => v = .int .i64 frm), (fun v _ => v = .pointer (some ⟨z, 2, none⟩)), (fun v _ => v = .int .i64 dst), (fun v _ => v = .pointer (some ⟨z, 4, none⟩)), (fun v _ => v = .string str), fun v _ => v = .int .i64 cd, (fun v _ => v = .bool false)] (by kernel_rfl) (by kernel_rfl) (by kernel_rfl) rfl (NI.start HGZ.out HZ.out GZ.out _) ?ok15 ?fin15
            case ok15 =>
              refine ⟨?_, ?_, ?_, ?_, ?_, ?_, ?_, ?_, ?_, ?_, ?_, ?_, ?_, ?_, ?_, ?_, ?_, ?_, trivial⟩
              · intro l a' w' K hI hcl hsz hn hd hq hK
                have e5 : a'.eval (.tmp 5) = .pointer (some ⟨w.heap.size, 0, none⟩) := (hq 5 (by kernel_rfl)).trans rfl
                clear hd hq hcl hsz hn
                refine op_value (wanted_free _ _ (by rfl)) (v := .pointer (some ⟨w.heap.size, 0, none⟩)) (w'' := w') ?_ (hK _ _ (hI.set _) (fun _ _ h => h) rfl)
                clear hK
                simp only [execOp, e5]
                have f5 : a'.tmps[5]?.getD undef = .pointer (some ⟨w.heap.size, 0, none⟩) := (Array.getD_eq_getD_getElem? ..).symm.trans e5
                clear e5
                first | rfl | (go_simp <;> exact IntWalk.i64_in _ (by omega))
              · intro l a' w' K hI hcl hsz hn hd hq hK
                have e9 : a'.eval (.tmp 9) = .pointer (some ⟨z, 0, none⟩) := (hq 9 (by kernel_rfl)).trans rfl
                clear hd hq hcl hsz hn
                refine op_value (wanted_free _ _ (by rfl)) (v := .pointer (some ⟨z, 1, none⟩)) (w'' := w') ?_ (hK _ _ (hI.set _) (fun _ _ h => h) rfl)
                clear hK
                simp only [execOp, e9]
                have f9 : a'.tmps[9]?.getD undef = .pointer (some ⟨z, 0, none⟩) := (Array.getD_eq_getD_getElem? ..).symm.trans e9
                clear e9
                first | rfl | (go_simp <;> exact IntWalk.i64_in _ (by omega))
              · intro l a' w' K hI hcl hsz hn hd hq hK
                have e73 : a'.eval (.tmp 73) = .pointer (some ⟨z, 1, none⟩) := (hd 1 73 (by kernel_rfl))
                clear hd hq hcl hsz hn
                have c0 := (cell_of_row w' z 1 _ _ _ hI.at_).trans rfl
                refine op_value (wanted_free _ _ (by rfl)) (v := .int .i64 frm) (w'' := w') ?_ (hK _ _ (hI.set _) (fun _ _ h => h) rfl)
                clear hK
                simp only [execOp, e73]
                have f73 : a'.tmps[73]?.getD undef = .pointer (some ⟨z, 1, none⟩) := (Array.getD_eq_getD_getElem? ..).symm.trans e73
                clear e73
                first | rfl | (go_simp <;> exact IntWalk.i64_in _ (by omega))
              · intro l a' w' K hI hcl hsz hn hd hq hK
                have e9 : a'.eval (.tmp 9) = .pointer (some ⟨z, 0, none⟩) := (hq 9 (by kernel_rfl)).trans rfl
                clear hd hq hcl hsz hn
                refine op_value (wanted_free _ _ (by rfl)) (v := .pointer (some ⟨z, 2, none⟩)) (w'' := w') ?_ (hK _ _ (hI.set _) (fun _ _ h => h) rfl)
                clear hK
                simp only [execOp, e9]
                have f9 : a'.tmps[9]?.getD undef = .pointer (some ⟨z, 0, none⟩) := (Array.getD_eq_getD_getElem? ..).symm.trans e9
                clear e9
                first | rfl | (go_simp <;> exact IntWalk.i64_in _ (by omega))
              · intro l a' w' K hI hcl hsz hn hd hq hK
                have e75 : a'.eval (.tmp 75) = .pointer (some ⟨z, 2, none⟩) := (hd 3 75 (by kernel_rfl))
                clear hd hq hcl hsz hn
                have c0 := (cell_of_row w' z 2 _ _ _ hI.at_).trans rfl
                refine op_value (wanted_free _ _ (by rfl)) (v := .int .i64 dst) (w'' := w') ?_ (hK _ _ (hI.set _) (fun _ _ h => h) rfl)
                clear hK
                simp only [execOp, e75]
                have f75 : a'.tmps[75]?.getD undef = .pointer (some ⟨z, 2, none⟩) := (Array.getD_eq_getD_getElem? ..).symm.trans e75
                clear e75
                first | rfl | (go_simp <;> exact IntWalk.i64_in _ (by omega))
              · intro l a' w' K hI hcl hsz hn hd hq hK
                have e9 : a'.eval (.tmp 9) = .pointer (some ⟨z, 0, none⟩) := (hq 9 (by kernel_rfl)).trans rfl
                clear hd hq hcl hsz hn
                refine op_value (wanted_free _ _ (by rfl)) (v := .pointer (some ⟨z, 4, none⟩)) (w'' := w') ?_ (hK _ _ (hI.set _) (fun _ _ h => h) rfl)
                clear hK
                simp only [execOp, e9]
                have f9 : a'.tmps[9]?.getD undef = .pointer (some ⟨z, 0, none⟩) := (Array.getD_eq_getD_getElem? ..).symm.trans e9
                clear e9
                first | rfl | (go_simp <;> exact IntWalk.i64_in _ (by omega))
              · intro l a' w' K hI hcl hsz hn hd hq hK
                have e77 : a'.eval (.tmp 77) = .pointer (some ⟨z, 4, none⟩) := (hd 5 77 (by kernel_rfl))
                clear hd hq hcl hsz hn
                have c0 := (cell_of_row w' z 4 _ _ _ hI.at_).trans rfl
                refine op_value (wanted_free _ _ (by rfl)) (v := .string str) (w'' := w') ?_ (hK _ _ (hI.set _) (fun _ _ h => h) rfl)
                clear hK
                simp only [execOp, e77]
                have f77 : a'.tmps[77]?.getD undef = .pointer (some ⟨z, 4, none⟩) := (Array.getD_eq_getD_getElem? ..).symm.trans e77
                clear e77
                first | rfl | (go_simp <;> exact IntWalk.i64_in _ (by omega))
              · intro l a' w' K hI hcl hsz hn hd hq hK
                have e78 : a'.eval (.tmp 78) = .string str := (hd 6 78 (by kernel_rfl))
                clear hd hq
                have hb7 := bytes_below (Below.refl w'.heap.size w') (Nat.le_refl _) 5 str
                have kb7 := Lib.run_convert_string_bytes (P := Try.prog) w' 9 41 5 str Try.underlying9 Try.underlying41 Try.underlying5
                have hf7 := hI.g.fresh hb7
                refine op_value (wanted_free _ _ (by rfl)) (v := .slice (some ⟨w'.heap.size, 0, none⟩) str.size (grownCap w' str.size 0 5)) (w'' := Lib.bytesWorld w' 5 str) ?_ (hK _ _ ((hI.below hb7).set _) (fun j u => by match j with | 7 => exact fun ⟨A7, c7, h1, h2, h3, h4⟩ => ⟨A7, c7, h1, hf7.2.1.rb h2 h4, h3, fun h0 ad e => hf7.2.1.good _ (h4 h0 ad e)⟩ | 0 | 1 | 2 | 3 | 4 | 5 | 6 | 8 | 9 | 10 | 11 | 12 | 13 | 14 | 15 | 16 | 17 => exact fun h => h | _ + 18 => exact fun _ => trivial) ⟨_, _, rfl, bytes_RB _ _ _, (fun h => by cases h), fun h0 ad e => by cases e; exact hf7.2.2 _ (Nat.le_refl _) (by show w'.heap.size < _; rw [Lib.bytesWorld_size]; omega)⟩)
                simp only [execOp, e78]
                generalize Lib.bytesWorld w' 5 str = W7 at *
                clear hK hI hf7 hb7 e78
                go_simp
              · intro l a' w' K hI hcl hsz hn hd hq hK
                have e72 : a'.eval (.tmp 72) = .pointer (some ⟨w.heap.size, 0, none⟩) := (hd 0 72 (by kernel_rfl))
                have e74 : a'.eval (.tmp 74) = .int .i64 frm := (hd 2 74 (by kernel_rfl))
                have e76 : a'.eval (.tmp 76) = .int .i64 dst := (hd 4 76 (by kernel_rfl))
                have e79 := hd 7 79 (by kernel_rfl)
                clear hd hq
                obtain ⟨A7, c7, e79, hr7, hni, hgo⟩ := (show ∃ A7 c7, a'.eval (.tmp 79) = .slice A7 str.size c7 ∧ RB w' A7 str.data.toList ∧ (A7 = none → c7 = 0) ∧ (0 < str.data.toList.length → ∀ ad, A7 = some ad → Good w.heap.size q w' ad.block) from e79)
                refine op_call #[.pointer (some ⟨w.heap.size, 0, none⟩), .int .i64 frm, .int .i64 dst, .slice A7 str.size c7] (wanted_free _ _ (by rfl)) rfl Try.func28 (by kernel_rfl) rfl (by simp [e72, e74, e76, e79]) ?_
                refine ((hI.one hn).send frm dst A7 str.size c7 str.data.toList (data_length str) (by rw [data_length]; have := HSS.out; omega) hr7 hni HS0.out HS1.out).mono ?_
                rw [HR.out]
                rintro e w6 ⟨rfl, hg6, hk6⟩
                exact ⟨_, rfl, hK _ _ (hI.did1 hg6 hk6 (by rw [hsz]; exact of_decide_eq_true (by kernel_rfl))) (fun j u => by match j with | 7 => exact fun ⟨A7, c7, h1, h2, h3, h4⟩ => ⟨A7, c7, h1, hk6.rb h2 h4, h3, fun h0 ad e => hk6.good _ (h4 h0 ad e)⟩ | 0 | 1 | 2 | 3 | 4 | 5 | 6 | 8 | 9 | 10 | 11 | 12 | 13 | 14 | 15 | 16 | 17 => exact fun h => h | _ + 18 => exact fun _ => trivial) rfl⟩
              · intro l a' w' K hI hcl hsz hn hd hq hK
                have e7 : a'.eval (.tmp 7) = .pointer (some ⟨q, 0, none⟩) := (hq 7 (by kernel_rfl)).trans rfl
                clear hd hq hcl hsz hn
                refine op_value (wanted_free _ _ (by rfl)) (v := .pointer (some ⟨q, 0, none⟩)) (w'' := w') ?_ (hK _ _ (hI.set _) (fun _ _ h => h) rfl)
                clear hK
                simp only [execOp, e7]
                have f7 : a'.tmps[7]?.getD undef = .pointer (some ⟨q, 0, none⟩) := (Array.getD_eq_getD_getElem? ..).symm.trans e7
                clear e7
                first | rfl | (go_simp <;> exact IntWalk.i64_in _ (by omega))
              · intro l a' w' K hI hcl hsz hn hd hq hK
                have e9 : a'.eval (.tmp 9) = .pointer (some ⟨z, 0, none⟩) := (hq 9 (by kernel_rfl)).trans rfl
                clear hd hq hcl hsz hn
                refine op_value (wanted_free _ _ (by rfl)) (v := .pointer (some ⟨z, 1, none⟩)) (w'' := w') ?_ (hK _ _ (hI.set _) (fun _ _ h => h) rfl)
                clear hK
                simp only [execOp, e9]
                have f9 : a'.tmps[9]?.getD undef = .pointer (some ⟨z, 0, none⟩) := (Array.getD_eq_getD_getElem? ..).symm.trans e9
                clear e9
                first | rfl | (go_simp <;> exact IntWalk.i64_in _ (by omega))
              · intro l a' w' K hI hcl hsz hn hd hq hK
                have e82 : a'.eval (.tmp 82) = .pointer (some ⟨z, 1, none⟩) := (hd 10 82 (by kernel_rfl))
                clear hd hq hcl hsz hn
                have c0 := (cell_of_row w' z 1 _ _ _ hI.at_).trans rfl
                refine op_value (wanted_free _ _ (by rfl)) (v := .int .i64 frm) (w'' := w') ?_ (hK _ _ (hI.set _) (fun _ _ h => h) rfl)
                clear hK
                simp only [execOp, e82]
                have f82 : a'.tmps[82]?.getD undef = .pointer (some ⟨z, 1, none⟩) := (Array.getD_eq_getD_getElem? ..).symm.trans e82
                clear e82
                first | rfl | (go_simp <;> exact IntWalk.i64_in _ (by omega))
              · intro l a' w' K hI hcl hsz hn hd hq hK
                have e9 : a'.eval (.tmp 9) = .pointer (some ⟨z, 0, none⟩) := (hq 9 (by kernel_rfl)).trans rfl
                clear hd hq hcl hsz hn
                refine op_value (wanted_free _ _ (by rfl)) (v := .pointer (some ⟨z, 2, none⟩)) (w'' := w') ?_ (hK _ _ (hI.set _) (fun _ _ h => h) rfl)
                clear hK
                simp only [execOp, e9]
                have f9 : a'.tmps[9]?.getD undef = .pointer (some ⟨z, 0, none⟩) := (Array.getD_eq_getD_getElem? ..).symm.trans e9
                clear e9
                first | rfl | (go_simp <;> exact IntWalk.i64_in _ (by omega))
              · intro l a' w' K hI hcl hsz hn hd hq hK
                have e84 : a'.eval (.tmp 84) = .pointer (some ⟨z, 2, none⟩) := (hd 12 84 (by kernel_rfl))
                clear hd hq hcl hsz hn
                have c0 := (cell_of_row w' z 2 _ _ _ hI.at_).trans rfl
                refine op_value (wanted_free _ _ (by rfl)) (v := .int .i64 dst) (w'' := w') ?_ (hK _ _ (hI.set _) (fun _ _ h => h) rfl)
                clear hK
                simp only [execOp, e84]
                have f84 : a'.tmps[84]?.getD undef = .pointer (some ⟨z, 2, none⟩) := (Array.getD_eq_getD_getElem? ..).symm.trans e84
                clear e84
                first | rfl | (go_simp <;> exact IntWalk.i64_in _ (by omega))
              · intro l a' w' K hI hcl hsz hn hd hq hK
                have e9 : a'.eval (.tmp 9) = .pointer (some ⟨z, 0, none⟩) := (hq 9 (by kernel_rfl)).trans rfl
                clear hd hq hcl hsz hn
                refine op_value (wanted_free _ _ (by rfl)) (v := .pointer (some ⟨z, 4, none⟩)) (w'' := w') ?_ (hK _ _ (hI.set _) (fun _ _ h => h) rfl)
                clear hK
                simp only [execOp, e9]
                have f9 : a'.tmps[9]?.getD undef = .pointer (some ⟨z, 0, none⟩) := (Array.getD_eq_getD_getElem? ..).symm.trans e9
                clear e9
                first | rfl | (go_simp <;> exact IntWalk.i64_in _ (by omega))
              · intro l a' w' K hI hcl hsz hn hd hq hK
                have e86 : a'.eval (.tmp 86) = .pointer (some ⟨z, 4, none⟩) := (hd 14 86 (by kernel_rfl))
                clear hd hq hcl hsz hn
                have c0 := (cell_of_row w' z 4 _ _ _ hI.at_).trans rfl
                refine op_value (wanted_free _ _ (by rfl)) (v := .string str) (w'' := w') ?_ (hK _ _ (hI.set _) (fun _ _ h => h) rfl)
                clear hK
                simp only [execOp, e86]
                have f86 : a'.tmps[86]?.getD undef = .pointer (some ⟨z, 4, none⟩) := (Array.getD_eq_getD_getElem? ..).symm.trans e86
                clear e86
                first | rfl | (go_simp <;> exact IntWalk.i64_in _ (by omega))
              · intro l a' w' K hI hcl hsz hn hd hq hK
                have e81 : a'.eval (.tmp 81) = .pointer (some ⟨q, 0, none⟩) := (hd 9 81 (by kernel_rfl))
                have e83 : a'.eval (.tmp 83) = .int .i64 frm := (hd 11 83 (by kernel_rfl))
                have e85 : a'.eval (.tmp 85) = .int .i64 dst := (hd 13 85 (by kernel_rfl))
                have e87 : a'.eval (.tmp 87) = .string str := (hd 15 87 (by kernel_rfl))
                clear hd hq
                refine op_call #[.pointer (some ⟨q, 0, none⟩), .int .i64 frm, .int .i64 dst, .string str] (wanted_free _ _ (by rfl)) rfl Try.func35 (by kernel_rfl) rfl (by simp [e81, e83, e85, e87]) ?_
                refine ((hI.two hn).rsend frm dst str HS0.out HS1.out).mono ?_
                rw [HR.out]
                rintro e w6 ⟨rfl, hg6, hk6⟩
                exact ⟨_, rfl, hK _ _ (hI.did2 hg6 hk6 (by rw [hsz]; exact of_decide_eq_true (by kernel_rfl))) (fun j u => by match j with | 7 => exact fun ⟨A7, c7, h1, h2, h3, h4⟩ => ⟨A7, c7, h1, hk6.rb h2 h4, h3, fun h0 ad e => hk6.good _ (h4 h0 ad e)⟩ | 0 | 1 | 2 | 3 | 4 | 5 | 6 | 8 | 9 | 10 | 11 | 12 | 13 | 14 | 15 | 16 | 17 => exact fun h => h | _ + 18 => exact fun _ => trivial) rfl⟩
              · intro l a' w' K hI hcl hsz hn hd hq hK
                have e80 : a'.eval (.tmp 80) = .int .i64 cd := (hd 8 80 (by kernel_rfl))
                have e88 : a'.eval (.tmp 88) = .int .i64 cd := (hd 16 88 (by kernel_rfl))
                clear hd hq hcl hsz hn
                refine op_value (wanted_free _ _ (by rfl)) (v := .bool false) (w'' := w') ?_ (hK _ _ (hI.set _) (fun _ _ h => h) rfl)
                clear hK
                simp only [execOp, e80, e88]
                have f80 : a'.tmps[80]?.getD undef = .int .i64 cd := (Array.getD_eq_getD_getElem? ..).symm.trans e80
                have f88 : a'.tmps[88]?.getD undef = .int .i64 cd := (Array.getD_eq_getD_getElem? ..).symm.trans e88
                clear e80 e88
                first | rfl | (go_simp <;> exact IntWalk.i64_in _ (by omega))
            case fin15 =>
              rintro l w' hsz hall hI _ rfl _ rfl _ rfl _ rfl _ rfl _ rfl _ rfl _ ⟨A7, c7, rfl, _⟩ _ rfl _ rfl _ rfl _ rfl _ rfl _ rfl _ rfl _ rfl _ rfl _ rfl
              simp only [Act.put, List.setIfInBounds_toArray, List.set_cons_zero, List.set_cons_succ, FinGoal]
              have HE := Lib.hid (hI.fin (hall 8 (of_decide_eq_true (by kernel_rfl))) (hall 16 (of_decide_eq_true (by kernel_rfl))))
              clear hI hall
              go_wp2_with fail
              go_meet
              exact ⟨s', ms', by have := HS0.out; have := HLE.out.1; omega, HLE.out.2, HE.out⟩
          · have hb1 : (kind == 1) = false := by rw [beq_eq_false_iff_ne]; exact hk1
            clear hk1
            by_cases hk2 : kind = 2
            · subst hk2
              clear hb1
              go_wp2_with fail
              obtain ⟨tf, tt, tb, tok, hT⟩ : ∃ tf tt tb tok, takeOf num ms = ((tf, tt, tb), tok) := ⟨_, _, _, _, rfl⟩
              have HT := Lib.hid hT
              clear hT
              refine (HGZ.out.take num HR3.out.1 HR3.out.2).mono ?_
              rw [HT.out]
              dsimp only
              rintro e w3 ⟨A3, c3, rfl, hg3, hk3, hr3, hgo3⟩
              obtain ⟨ms', hME⟩ : ∃ ms', ms.eraseIdx (placeOf num ms.length) = ms' := ⟨_, rfl⟩
              rw [hME] at hg3
              have HME := Lib.hid hME
              have d3 : w3.cell? ⟨z, 3, none⟩ = some (.int .i64 num) := (cell_of_row w3 z 3 _ _ _ ((hk3.block GZ.out).trans HZ.out)).trans rfl
              have zl3 : z < w3.heap.size := (hk3.good z GZ.out).1
              have HG3 := Lib.hid hg3
              have HR4 := Lib.hid hr3
              have HGO := Lib.hid hgo3
              clear hME hg3 hk3 hr3 hgo3 cz0 cz3
              go_wp2_with fail
              have hb4 : Below w3.heap.size w3 (w3.alloc (.cells #[.int .i64 tf, .int .i64 tt, .slice A3 tb.length c3] 47)) := (Below.refl _ _).alloc (Nat.le_refl _) _
              have hf4 := HG3.out.fresh hb4
              have ha4 : (w3.alloc (.cells #[.int .i64 tf, .int .i64 tt, .slice A3 tb.length c3] 47)).heap[w3.heap.size]? = some (.cells #[.int .i64 tf, .int .i64 tt, .slice A3 tb.length c3] 47 (0, 0)) := heap_alloc_new w3 _
              have gx4 := hf4.2.2 w3.heap.size (Nat.le_refl _) (by simp)
              refine (hf4.1.rtake num HR3.out.1 HR3.out.2).mono ?_
              rw [HT.out, HME.out]
              dsimp only
              rintro e w5 ⟨rfl, hg5, hk5⟩
              have hx5 := (hk5.block gx4).trans ha4
              have x0 : w5.cell? ⟨w3.heap.size, 0, none⟩ = some (.int .i64 tf) := (cell_of_row w5 _ 0 _ _ _ hx5).trans rfl
              have x1 : w5.cell? ⟨w3.heap.size, 1, none⟩ = some (.int .i64 tt) := (cell_of_row w5 _ 1 _ _ _ hx5).trans rfl
              have x2 : w5.cell? ⟨w3.heap.size, 2, none⟩ = some (.slice A3 tb.length c3) := (cell_of_row w5 _ 2 _ _ _ hx5).trans rfl
              have xl : w3.heap.size < w5.heap.size := (hk5.good _ gx4).1
              have HR5 := Lib.hid (hk5.rb (HR4.out.below hb4) (fun h0 ad e => hf4.2.1.good _ (HGO.out h0 ad e)))
              have HG5 := Lib.hid hg5
              clear hb4 hf4 ha4 gx4 hg5 hk5 hx5 d3 zl3
              obtain ⟨zb, hzb⟩ : ∃ zb : ByteArray, zb = ⟨tb.toArray⟩ := ⟨_, rfl⟩
              rw [← hzb]
              have HZB := Lib.hid hzb
              clear hzb
              generalize w3.heap.size = gx at *
              go_wp2_with fail
              rw [HZB.out]
              refine (same_eq tf tt A3 c3 tb _ (HR5.out.below ((Below.refl _ _).alloc (Nat.le_refl _) _))).mono ?_
              rintro e w6 ⟨rfl, hb6⟩
              have HG6 := Lib.hid ((HG5.out.below ((Below.refl _ _).alloc (Nat.le_refl _) _)).below hb6)
              clear hb6 x0 x1 x2 xl
              cases tok
              all_goals
                go_wp2_with fail
                go_meet
                exact ⟨s, ms', HS0.out, by omega, HG6.out⟩
            · have hb2 : (kind == 2) = false := by rw [beq_eq_false_iff_ne]; exact hk2
              clear hk2
              by_cases hk3 : kind = 3
              · subst hk3
                clear hb1 hb2
                obtain ⟨tz, tok, hT⟩ : ∃ tz tok, takeOf num ms = (tz, tok) := ⟨_, _, rfl⟩
                have HTK := Lib.hid (show (takeOf num ms).2 = tok by rw [hT])
                obtain ⟨ms', hME⟩ : ∃ ms', ms.eraseIdx (placeOf num ms.length) = ms' := ⟨_, rfl⟩
                have HME := Lib.hid hME
                clear hT hME
                go_upto_region 23 with fail
                refine region_byL (NI w w.heap.size q z (.cells #[.int .i64 3, .int .i64 frm, .int .i64 dst, .int .i64 num, .string str] 54 (0, 0)) nodes 3 7 s ms s ms') [(fun v _ => v = .pointer (some ⟨w.heap.size, 0, none⟩)), (fun v _ => v = .pointer (some ⟨z, 3, none⟩)), (fun v _ => v = .int .i64 num), fun v _ => v = .bool tok, (fun v _ => v = .pointer (some ⟨q, 0, none⟩)), (fun v _ => v = .pointer (some ⟨z, 3, none⟩)), (fun v _ => v = .int .i64 num), fun v _ => v = .bool tok, (fun v _ => v = .bool false)] (by kernel_rfl) (by kernel_rfl) (by kernel_rfl) rfl (NI.start HGZ.out HZ.out GZ.out _) ?ok23 ?fin23
                case ok23 =>
                  refine ⟨?_, ?_, ?_, ?_, ?_, ?_, ?_, ?_, ?_, trivial⟩
                  · intro l a' w' K hI hcl hsz hn hd hq hK
                    have e5 : a'.eval (.tmp 5) = .pointer (some ⟨w.heap.size, 0, none⟩) := (hq 5 (by kernel_rfl)).trans rfl
                    clear hd hq hcl hsz hn
                    refine op_value (wanted_free _ _ (by rfl)) (v := .pointer (some ⟨w.heap.size, 0, none⟩)) (w'' := w') ?_ (hK _ _ (hI.set _) (fun _ _ h => h) rfl)
                    clear hK
                    simp only [execOp, e5]
                    have f5 : a'.tmps[5]?.getD undef = .pointer (some ⟨w.heap.size, 0, none⟩) := (Array.getD_eq_getD_getElem? ..).symm.trans e5
                    clear e5
                    first | rfl | (go_simp <;> exact IntWalk.i64_in _ (by omega))
                  · intro l a' w' K hI hcl hsz hn hd hq hK
                    have e9 : a'.eval (.tmp 9) = .pointer (some ⟨z, 0, none⟩) := (hq 9 (by kernel_rfl)).trans rfl
                    clear hd hq hcl hsz hn
                    refine op_value (wanted_free _ _ (by rfl)) (v := .pointer (some ⟨z, 3, none⟩)) (w'' := w') ?_ (hK _ _ (hI.set _) (fun _ _ h => h) rfl)
                    clear hK
                    simp only [execOp, e9]
                    have f9 : a'.tmps[9]?.getD undef = .pointer (some ⟨z, 0, none⟩) := (Array.getD_eq_getD_getElem? ..).symm.trans e9
                    clear e9
                    first | rfl | (go_simp <;> exact IntWalk.i64_in _ (by omega))
                  · intro l a' w' K hI hcl hsz hn hd hq hK
                    have e118 : a'.eval (.tmp 118) = .pointer (some ⟨z, 3, none⟩) := (hd 1 118 (by kernel_rfl))
                    clear hd hq hcl hsz hn
                    have c0 := (cell_of_row w' z 3 _ _ _ hI.at_).trans rfl
                    refine op_value (wanted_free _ _ (by rfl)) (v := .int .i64 num) (w'' := w') ?_ (hK _ _ (hI.set _) (fun _ _ h => h) rfl)
                    clear hK
                    simp only [execOp, e118]
                    have f118 : a'.tmps[118]?.getD undef = .pointer (some ⟨z, 3, none⟩) := (Array.getD_eq_getD_getElem? ..).symm.trans e118
                    clear e118
                    first | rfl | (go_simp <;> exact IntWalk.i64_in _ (by omega))
                  · intro l a' w' K hI hcl hsz hn hd hq hK
                    have e117 : a'.eval (.tmp 117) = .pointer (some ⟨w.heap.size, 0, none⟩) := (hd 0 117 (by kernel_rfl))
                    have e119 : a'.eval (.tmp 119) = .int .i64 num := (hd 2 119 (by kernel_rfl))
                    clear hd hq
                    refine op_call #[.pointer (some ⟨w.heap.size, 0, none⟩), .int .i64 num] (wanted_free _ _ (by rfl)) rfl Try.func34 (by kernel_rfl) rfl (by simp [e117, e119]) ?_
                    refine ((hI.one hn).drop num HR3.out.1 HR3.out.2).mono ?_
                    rw [HTK.out, HME.out]
                    rintro e w6 ⟨rfl, hg6, hk6⟩
                    exact ⟨_, rfl, hK _ _ (hI.did1 hg6 hk6 (by rw [hsz]; exact of_decide_eq_true (by kernel_rfl))) (fun j u => by match j with | 0 | 1 | 2 | 3 | 4 | 5 | 6 | 7 | 8 => exact fun h => h | _ + 9 => exact fun _ => trivial) rfl⟩
                  · intro l a' w' K hI hcl hsz hn hd hq hK
                    have e7 : a'.eval (.tmp 7) = .pointer (some ⟨q, 0, none⟩) := (hq 7 (by kernel_rfl)).trans rfl
                    clear hd hq hcl hsz hn
                    refine op_value (wanted_free _ _ (by rfl)) (v := .pointer (some ⟨q, 0, none⟩)) (w'' := w') ?_ (hK _ _ (hI.set _) (fun _ _ h => h) rfl)
                    clear hK
                    simp only [execOp, e7]
                    have f7 : a'.tmps[7]?.getD undef = .pointer (some ⟨q, 0, none⟩) := (Array.getD_eq_getD_getElem? ..).symm.trans e7
                    clear e7
                    first | rfl | (go_simp <;> exact IntWalk.i64_in _ (by omega))
                  · intro l a' w' K hI hcl hsz hn hd hq hK
                    have e9 : a'.eval (.tmp 9) = .pointer (some ⟨z, 0, none⟩) := (hq 9 (by kernel_rfl)).trans rfl
                    clear hd hq hcl hsz hn
                    refine op_value (wanted_free _ _ (by rfl)) (v := .pointer (some ⟨z, 3, none⟩)) (w'' := w') ?_ (hK _ _ (hI.set _) (fun _ _ h => h) rfl)
                    clear hK
                    simp only [execOp, e9]
                    have f9 : a'.tmps[9]?.getD undef = .pointer (some ⟨z, 0, none⟩) := (Array.getD_eq_getD_getElem? ..).symm.trans e9
                    clear e9
                    first | rfl | (go_simp <;> exact IntWalk.i64_in _ (by omega))
                  · intro l a' w' K hI hcl hsz hn hd hq hK
                    have e122 : a'.eval (.tmp 122) = .pointer (some ⟨z, 3, none⟩) := (hd 5 122 (by kernel_rfl))
                    clear hd hq hcl hsz hn
                    have c0 := (cell_of_row w' z 3 _ _ _ hI.at_).trans rfl
                    refine op_value (wanted_free _ _ (by rfl)) (v := .int .i64 num) (w'' := w') ?_ (hK _ _ (hI.set _) (fun _ _ h => h) rfl)
                    clear hK
                    simp only [execOp, e122]
                    have f122 : a'.tmps[122]?.getD undef = .pointer (some ⟨z, 3, none⟩) := (Array.getD_eq_getD_getElem? ..).symm.trans e122
                    clear e122
                    first | rfl | (go_simp <;> exact IntWalk.i64_in _ (by omega))
                  · intro l a' w' K hI hcl hsz hn hd hq hK
                    have e121 : a'.eval (.tmp 121) = .pointer (some ⟨q, 0, none⟩) := (hd 4 121 (by kernel_rfl))
                    have e123 : a'.eval (.tmp 123) = .int .i64 num := (hd 6 123 (by kernel_rfl))
                    clear hd hq
                    refine op_call #[.pointer (some ⟨q, 0, none⟩), .int .i64 num] (wanted_free _ _ (by rfl)) rfl Try.func38 (by kernel_rfl) rfl (by simp [e121, e123]) ?_
                    refine ((hI.two hn).rdrop num HR3.out.1 HR3.out.2).mono ?_
                    rw [HTK.out, HME.out]
                    rintro e w6 ⟨rfl, hg6, hk6⟩
                    exact ⟨_, rfl, hK _ _ (hI.did2 hg6 hk6 (by rw [hsz]; exact of_decide_eq_true (by kernel_rfl))) (fun j u => by match j with | 0 | 1 | 2 | 3 | 4 | 5 | 6 | 7 | 8 => exact fun h => h | _ + 9 => exact fun _ => trivial) rfl⟩
                  · intro l a' w' K hI hcl hsz hn hd hq hK
                    have e120 : a'.eval (.tmp 120) = .bool tok := (hd 3 120 (by kernel_rfl))
                    have e124 : a'.eval (.tmp 124) = .bool tok := (hd 7 124 (by kernel_rfl))
                    clear hd hq hcl hsz hn
                    refine op_value (wanted_free _ _ (by rfl)) (v := .bool false) (w'' := w') ?_ (hK _ _ (hI.set _) (fun _ _ h => h) rfl)
                    clear hK
                    simp only [execOp, e120, e124]
                    have f120 : a'.tmps[120]?.getD undef = .bool tok := (Array.getD_eq_getD_getElem? ..).symm.trans e120
                    have f124 : a'.tmps[124]?.getD undef = .bool tok := (Array.getD_eq_getD_getElem? ..).symm.trans e124
                    clear e120 e124
                    first | rfl | (go_simp <;> exact IntWalk.i64_in _ (by omega))
                case fin23 =>
                  rintro l w' hsz hall hI _ rfl _ rfl _ rfl _ rfl _ rfl _ rfl _ rfl _ rfl _ rfl
                  simp only [Act.put, List.setIfInBounds_toArray, List.set_cons_zero, List.set_cons_succ, FinGoal]
                  have HE := Lib.hid (hI.fin (hall 3 (of_decide_eq_true (by kernel_rfl))) (hall 7 (of_decide_eq_true (by kernel_rfl))))
                  clear hI hall
                  go_wp2_with fail
                  go_meet
                  exact ⟨s, ms', HS0.out, by omega, HE.out⟩
              · have hb3 : (kind == 3) = false := by rw [beq_eq_false_iff_ne]; exact hk3
                clear hk3
                obtain ⟨tok, ms', hT⟩ : ∃ tok ms', twiceOf num ms = (tok, ms') := ⟨_, _, rfl⟩
                have HTK := Lib.hid hT
                clear hT
                go_upto_region 12 with fail
                refine region_byL (NI w w.heap.size q z (.cells #[.int .i64 kind, .int .i64 frm, .int .i64 dst, .int .i64 num, .string str] 54 (0, 0)) nodes 3 7 s ms s ms') [(fun v _ => v = .pointer (some ⟨w.heap.size, 0, none⟩)), (fun v _ => v = .pointer (some ⟨z, 3, none⟩)), (fun v _ => v = .int .i64 num), fun v _ => v = .bool tok, (fun v _ => v = .pointer (some ⟨q, 0, none⟩)), (fun v _ => v = .pointer (some ⟨z, 3, none⟩)), (fun v _ => v = .int .i64 num), fun v _ => v = .bool tok, (fun v _ => v = .bool false)] (by kernel_rfl) (by kernel_rfl) (by kernel_rfl) rfl (NI.start HGZ.out HZ.out GZ.out _) ?ok12 ?fin12
                case ok12 =>
                  refine ⟨?_, ?_, ?_, ?_, ?_, ?_, ?_, ?_, ?_, trivial⟩
                  · intro l a' w' K hI hcl hsz hn hd hq hK
                    have e5 : a'.eval (.tmp 5) = .pointer (some ⟨w.heap.size, 0, none⟩) := (hq 5 (by kernel_rfl)).trans rfl
                    clear hd hq hcl hsz hn
                    refine op_value (wanted_free _ _ (by rfl)) (v := .pointer (some ⟨w.heap.size, 0, none⟩)) (w'' := w') ?_ (hK _ _ (hI.set _) (fun _ _ h => h) rfl)
                    clear hK
                    simp only [execOp, e5]
                    have f5 : a'.tmps[5]?.getD undef = .pointer (some ⟨w.heap.size, 0, none⟩) := (Array.getD_eq_getD_getElem? ..).symm.trans e5
                    clear e5
                    first | rfl | (go_simp <;> exact IntWalk.i64_in _ (by omega))
                  · intro l a' w' K hI hcl hsz hn hd hq hK
                    have e9 : a'.eval (.tmp 9) = .pointer (some ⟨z, 0, none⟩) := (hq 9 (by kernel_rfl)).trans rfl
                    clear hd hq hcl hsz hn
                    refine op_value (wanted_free _ _ (by rfl)) (v := .pointer (some ⟨z, 3, none⟩)) (w'' := w') ?_ (hK _ _ (hI.set _) (fun _ _ h => h) rfl)
                    clear hK
                    simp only [execOp, e9]
                    have f9 : a'.tmps[9]?.getD undef = .pointer (some ⟨z, 0, none⟩) := (Array.getD_eq_getD_getElem? ..).symm.trans e9
                    clear e9
                    first | rfl | (go_simp <;> exact IntWalk.i64_in _ (by omega))
                  · intro l a' w' K hI hcl hsz hn hd hq hK
                    have e62 : a'.eval (.tmp 62) = .pointer (some ⟨z, 3, none⟩) := (hd 1 62 (by kernel_rfl))
                    clear hd hq hcl hsz hn
                    have c0 := (cell_of_row w' z 3 _ _ _ hI.at_).trans rfl
                    refine op_value (wanted_free _ _ (by rfl)) (v := .int .i64 num) (w'' := w') ?_ (hK _ _ (hI.set _) (fun _ _ h => h) rfl)
                    clear hK
                    simp only [execOp, e62]
                    have f62 : a'.tmps[62]?.getD undef = .pointer (some ⟨z, 3, none⟩) := (Array.getD_eq_getD_getElem? ..).symm.trans e62
                    clear e62
                    first | rfl | (go_simp <;> exact IntWalk.i64_in _ (by omega))
                  · intro l a' w' K hI hcl hsz hn hd hq hK
                    have e61 : a'.eval (.tmp 61) = .pointer (some ⟨w.heap.size, 0, none⟩) := (hd 0 61 (by kernel_rfl))
                    have e63 : a'.eval (.tmp 63) = .int .i64 num := (hd 2 63 (by kernel_rfl))
                    clear hd hq
                    refine op_call #[.pointer (some ⟨w.heap.size, 0, none⟩), .int .i64 num] (wanted_free _ _ (by rfl)) rfl Try.func29 (by kernel_rfl) rfl (by simp [e61, e63]) ?_
                    refine ((hI.one hn).twice num HR3.out.1 HR3.out.2).mono ?_
                    rw [HTK.out]
                    rintro e w6 ⟨rfl, hg6, hk6⟩
                    exact ⟨_, rfl, hK _ _ (hI.did1 hg6 hk6 (by rw [hsz]; exact of_decide_eq_true (by kernel_rfl))) (fun j u => by match j with | 0 | 1 | 2 | 3 | 4 | 5 | 6 | 7 | 8 => exact fun h => h | _ + 9 => exact fun _ => trivial) rfl⟩
                  · intro l a' w' K hI hcl hsz hn hd hq hK
                    have e7 : a'.eval (.tmp 7) = .pointer (some ⟨q, 0, none⟩) := (hq 7 (by kernel_rfl)).trans rfl
                    clear hd hq hcl hsz hn
                    refine op_value (wanted_free _ _ (by rfl)) (v := .pointer (some ⟨q, 0, none⟩)) (w'' := w') ?_ (hK _ _ (hI.set _) (fun _ _ h => h) rfl)
                    clear hK
                    simp only [execOp, e7]
                    have f7 : a'.tmps[7]?.getD undef = .pointer (some ⟨q, 0, none⟩) := (Array.getD_eq_getD_getElem? ..).symm.trans e7
                    clear e7
                    first | rfl | (go_simp <;> exact IntWalk.i64_in _ (by omega))
                  · intro l a' w' K hI hcl hsz hn hd hq hK
                    have e9 : a'.eval (.tmp 9) = .pointer (some ⟨z, 0, none⟩) := (hq 9 (by kernel_rfl)).trans rfl
                    clear hd hq hcl hsz hn
                    refine op_value (wanted_free _ _ (by rfl)) (v := .pointer (some ⟨z, 3, none⟩)) (w'' := w') ?_ (hK _ _ (hI.set _) (fun _ _ h => h) rfl)
                    clear hK
                    simp only [execOp, e9]
                    have f9 : a'.tmps[9]?.getD undef = .pointer (some ⟨z, 0, none⟩) := (Array.getD_eq_getD_getElem? ..).symm.trans e9
                    clear e9
                    first | rfl | (go_simp <;> exact IntWalk.i64_in _ (by omega))
                  · intro l a' w' K hI hcl hsz hn hd hq hK
                    have e66 : a'.eval (.tmp 66) = .pointer (some ⟨z, 3, none⟩) := (hd 5 66 (by kernel_rfl))
                    clear hd hq hcl hsz hn
                    have c0 := (cell_of_row w' z 3 _ _ _ hI.at_).trans rfl
                    refine op_value (wanted_free _ _ (by rfl)) (v := .int .i64 num) (w'' := w') ?_ (hK _ _ (hI.set _) (fun _ _ h => h) rfl)
                    clear hK
                    simp only [execOp, e66]
                    have f66 : a'.tmps[66]?.getD undef = .pointer (some ⟨z, 3, none⟩) := (Array.getD_eq_getD_getElem? ..).symm.trans e66
                    clear e66
                    first | rfl | (go_simp <;> exact IntWalk.i64_in _ (by omega))
                  · intro l a' w' K hI hcl hsz hn hd hq hK
                    have e65 : a'.eval (.tmp 65) = .pointer (some ⟨q, 0, none⟩) := (hd 4 65 (by kernel_rfl))
                    have e67 : a'.eval (.tmp 67) = .int .i64 num := (hd 6 67 (by kernel_rfl))
                    clear hd hq
                    refine op_call #[.pointer (some ⟨q, 0, none⟩), .int .i64 num] (wanted_free _ _ (by rfl)) rfl Try.func39 (by kernel_rfl) rfl (by simp [e65, e67]) ?_
                    refine ((hI.two hn).rtwice num HR3.out.1 HR3.out.2).mono ?_
                    rw [HTK.out]
                    rintro e w6 ⟨rfl, hg6, hk6⟩
                    exact ⟨_, rfl, hK _ _ (hI.did2 hg6 hk6 (by rw [hsz]; exact of_decide_eq_true (by kernel_rfl))) (fun j u => by match j with | 0 | 1 | 2 | 3 | 4 | 5 | 6 | 7 | 8 => exact fun h => h | _ + 9 => exact fun _ => trivial) rfl⟩
                  · intro l a' w' K hI hcl hsz hn hd hq hK
                    have e64 : a'.eval (.tmp 64) = .bool tok := (hd 3 64 (by kernel_rfl))
                    have e68 : a'.eval (.tmp 68) = .bool tok := (hd 7 68 (by kernel_rfl))
                    clear hd hq hcl hsz hn
                    refine op_value (wanted_free _ _ (by rfl)) (v := .bool false) (w'' := w') ?_ (hK _ _ (hI.set _) (fun _ _ h => h) rfl)
                    clear hK
                    simp only [execOp, e64, e68]
                    have f64 : a'.tmps[64]?.getD undef = .bool tok := (Array.getD_eq_getD_getElem? ..).symm.trans e64
                    have f68 : a'.tmps[68]?.getD undef = .bool tok := (Array.getD_eq_getD_getElem? ..).symm.trans e68
                    clear e64 e68
                    first | rfl | (go_simp <;> exact IntWalk.i64_in _ (by omega))
                case fin12 =>
                  rintro l w' hsz hall hI _ rfl _ rfl _ rfl _ rfl _ rfl _ rfl _ rfl _ rfl _ rfl
                  simp only [Act.put, List.setIfInBounds_toArray, List.set_cons_zero, List.set_cons_succ, FinGoal]
                  have HE := Lib.hid (hI.fin (hall 3 (of_decide_eq_true (by kernel_rfl))) (hall 7 (of_decide_eq_true (by kernel_rfl))))
                  clear hI hall
                  go_wp2_with fail
                  go_meet
                  exact ⟨s, ms', HS0.out, by omega, HE.out⟩
        case rest =>
          obtain ⟨s', ms', hs0', hs1', hg'⟩ := hcut
          have HGC := Lib.hid hg'
          have HS0' := Lib.hid hs0'
          have HS1' := Lib.hid hs1'
          have HLM := Lib.hid (show ms'.length ≤ 512 by obtain ⟨v, u, hp, _⟩ := hg'; exact hp.len1)
          clear hg' hs0' hs1' cz0 cz3
          go_upto_region 25 with fail
          refine region_by (fun W => NG w W w.heap.size q nodes s' ms' s' ms') [(fun v _ => v = .pointer (some ⟨w.heap.size, 0, none⟩)), fun v _ => v = .int .i64 s', (fun v _ => v = .pointer (some ⟨q, 0, none⟩)), (fun v _ => v = .pointer (some ⟨q, 0, none⟩)), (fun v _ => v = .pointer (some ⟨q, 2, none⟩)), (fun v _ => v = .int .i64 s'), (fun v _ => v = .bool false), (fun v _ => v = .bool false), (fun v _ => v = .pointer (some ⟨w.heap.size, 0, none⟩)), fun v _ => ∃ A9 c9, v = .slice A9 ms'.length c9, fun v _ => v = .int .i64 (ms'.length : Int), (fun v _ => v = .pointer (some ⟨q, 0, none⟩)), (fun v _ => v = .pointer (some ⟨q, 0, none⟩)), (fun v _ => v = .pointer (some ⟨q, 1, none⟩)), fun v _ => ∃ A9 c9, v = .slice A9 ms'.length c9, fun v _ => v = .int .i64 (ms'.length : Int), (fun v _ => v = .bool false), (fun v _ => v = .bool false)] (by kernel_rfl) (by kernel_rfl) (by kernel_rfl) rfl (HGC.out.drew) ?ok25 ?fin25
          case ok25 =>
            refine ⟨?_, ?_, ?_, ?_, ?_, ?_, ?_, ?_, ?_, ?_, ?_, ?_, ?_, ?_, ?_, ?_, ?_, ?_, trivial⟩
            · intro a' w' K hI hd hq hK
              have e5 : a'.eval (.tmp 5) = .pointer (some ⟨w.heap.size, 0, none⟩) := (hq 5 (by kernel_rfl)).trans rfl
              clear hd hq
              refine op_value (wanted_free _ _ (by rfl)) (v := .pointer (some ⟨w.heap.size, 0, none⟩)) (w'' := w') ?_ (hK _ _ hI (fun _ _ h => h) rfl)
              clear hK
              simp only [execOp, e5]
              have f5 : a'.tmps[5]?.getD undef = .pointer (some ⟨w.heap.size, 0, none⟩) := (Array.getD_eq_getD_getElem? ..).symm.trans e5
              clear e5
              first | rfl | (go_simp <;> exact IntWalk.i64_in _ (by omega))
            · intro a' w' K hI hd hq hK
              have e126 : a'.eval (.tmp 126) = .pointer (some ⟨w.heap.size, 0, none⟩) := (hd 0 126 (by kernel_rfl))
              clear hd hq
              refine op_call #[.pointer (some ⟨w.heap.size, 0, none⟩)] (wanted_free _ _ (by rfl)) rfl Try.func33 (by kernel_rfl) rfl (by simp [e126]) ?_
              refine (NZ.sent hI).mono ?_
              rintro e w6 ⟨rfl, rfl⟩
              exact ⟨_, rfl, hK _ _ hI (fun _ _ h => h) rfl⟩
            · intro a' w' K hI hd hq hK
              have e7 : a'.eval (.tmp 7) = .pointer (some ⟨q, 0, none⟩) := (hq 7 (by kernel_rfl)).trans rfl
              clear hd hq
              refine op_value (wanted_free _ _ (by rfl)) (v := .pointer (some ⟨q, 0, none⟩)) (w'' := w') ?_ (hK _ _ hI (fun _ _ h => h) rfl)
              clear hK
              simp only [execOp, e7]
              have f7 : a'.tmps[7]?.getD undef = .pointer (some ⟨q, 0, none⟩) := (Array.getD_eq_getD_getElem? ..).symm.trans e7
              clear e7
              first | rfl | (go_simp <;> exact IntWalk.i64_in _ (by omega))
            · intro a' w' K hI hd hq hK
              have e128 : a'.eval (.tmp 128) = .pointer (some ⟨q, 0, none⟩) := (hd 2 128 (by kernel_rfl))
              clear hd hq
              refine op_value (wanted_free _ _ (by rfl)) (v := .pointer (some ⟨q, 0, none⟩)) (w'' := w') ?_ (hK _ _ hI (fun _ _ h => h) rfl)
              clear hK
              simp only [execOp, e128]
              have f128 : a'.tmps[128]?.getD undef = .pointer (some ⟨q, 0, none⟩) := (Array.getD_eq_getD_getElem? ..).symm.trans e128
              clear e128
              first | rfl | (go_simp <;> exact IntWalk.i64_in _ (by omega))
            · intro a' w' K hI hd hq hK
              have e129 : a'.eval (.tmp 129) = .pointer (some ⟨q, 0, none⟩) := (hd 3 129 (by kernel_rfl))
              clear hd hq
              refine op_value (wanted_free _ _ (by rfl)) (v := .pointer (some ⟨q, 2, none⟩)) (w'' := w') ?_ (hK _ _ hI (fun _ _ h => h) rfl)
              clear hK
              simp only [execOp, e129]
              have f129 : a'.tmps[129]?.getD undef = .pointer (some ⟨q, 0, none⟩) := (Array.getD_eq_getD_getElem? ..).symm.trans e129
              clear e129
              first | rfl | (go_simp <;> exact IntWalk.i64_in _ (by omega))
            · intro a' w' K hI hd hq hK
              have e130 : a'.eval (.tmp 130) = .pointer (some ⟨q, 2, none⟩) := (hd 4 130 (by kernel_rfl))
              clear hd hq
              have c0 := NZ.ref2 hI
              refine op_value (wanted_free _ _ (by rfl)) (v := .int .i64 s') (w'' := w') ?_ (hK _ _ hI (fun _ _ h => h) rfl)
              clear hK
              simp only [execOp, e130]
              have f130 : a'.tmps[130]?.getD undef = .pointer (some ⟨q, 2, none⟩) := (Array.getD_eq_getD_getElem? ..).symm.trans e130
              clear e130
              first | rfl | (go_simp <;> exact IntWalk.i64_in _ (by omega))
            · intro a' w' K hI hd hq hK
              have e127 : a'.eval (.tmp 127) = .int .i64 s' := (hd 1 127 (by kernel_rfl))
              have e131 : a'.eval (.tmp 131) = .int .i64 s' := (hd 5 131 (by kernel_rfl))
              clear hd hq
              refine op_value (wanted_free _ _ (by rfl)) (v := .bool false) (w'' := w') ?_ (hK _ _ hI (fun _ _ h => h) rfl)
              clear hK
              simp only [execOp, e127, e131]
              have f127 : a'.tmps[127]?.getD undef = .int .i64 s' := (Array.getD_eq_getD_getElem? ..).symm.trans e127
              have f131 : a'.tmps[131]?.getD undef = .int .i64 s' := (Array.getD_eq_getD_getElem? ..).symm.trans e131
              clear e127 e131
              first | rfl | (go_simp <;> exact IntWalk.i64_in _ (by omega))
            · intro a' w' K hI hd hq hK
              have e132 : a'.eval (.tmp 132) = .bool false := (hd 6 132 (by kernel_rfl))
              clear hd hq
              refine op_value (wanted_free _ _ (by rfl)) (v := .bool false) (w'' := w') ?_ (hK _ _ hI (fun _ _ h => h) rfl)
              clear hK
              simp only [execOp, e132]
              have f132 : a'.tmps[132]?.getD undef = .bool false := (Array.getD_eq_getD_getElem? ..).symm.trans e132
              clear e132
              first | rfl | (go_simp <;> exact IntWalk.i64_in _ (by omega))
            · intro a' w' K hI hd hq hK
              have hg := hd 7 133 (by kernel_rfl)
              have e5 : a'.eval (.tmp 5) = .pointer (some ⟨w.heap.size, 0, none⟩) := (hq 5 (by kernel_rfl)).trans rfl
              clear hd hq
              refine op_value (wanted_on _ a' 7 133 false (by rfl) (by rfl) hg) (v := .pointer (some ⟨w.heap.size, 0, none⟩)) (w'' := w') ?_ (hK _ _ hI (fun _ _ h => h) rfl)
              clear hK
              simp only [execOp, e5]
              have f5 : a'.tmps[5]?.getD undef = .pointer (some ⟨w.heap.size, 0, none⟩) := (Array.getD_eq_getD_getElem? ..).symm.trans e5
              clear e5
              first | rfl | (go_simp <;> exact IntWalk.i64_in _ (by omega))
            · intro a' w' K hI hd hq hK
              have hg := hd 7 133 (by kernel_rfl)
              have e134 : a'.eval (.tmp 134) = .pointer (some ⟨w.heap.size, 0, none⟩) := (hd 8 134 (by kernel_rfl))
              clear hd hq
              refine op_call #[.pointer (some ⟨w.heap.size, 0, none⟩)] (wanted_on _ a' 7 133 false (by rfl) (by rfl) hg) rfl Try.func30 (by kernel_rfl) rfl (by simp [e134]) ?_
              refine (NZ.pending hI).mono ?_
              rintro e w6 ⟨x, M, rfl, hm, ho, hf, hb⟩
              obtain ⟨A9, c9, rfl, _⟩ := own_slice ho
              exact ⟨_, rfl, hK _ _ (NG.below hI hb) (fun j u => by match j with | 0 | 1 | 2 | 3 | 4 | 5 | 6 | 7 | 8 | 9 | 10 | 11 | 12 | 13 | 14 | 15 | 16 | 17 => exact fun h => h | _ + 18 => exact fun _ => trivial) ⟨A9, c9, rfl⟩⟩
            · intro a' w' K hI hd hq hK
              have hg := hd 7 133 (by kernel_rfl)
              have e135 := hd 9 135 (by kernel_rfl)
              clear hd hq
              obtain ⟨A9, c9, e135⟩ := (show ∃ A9 c9, a'.eval (.tmp 135) = .slice A9 ms'.length c9 from e135)
              refine op_value (wanted_on _ a' 7 133 false (by rfl) (by rfl) hg) (v := .int .i64 (ms'.length : Int)) (w'' := w') ?_ (hK _ _ hI (fun _ _ h => h) rfl)
              clear hK hI
              simp only [execOp]
              have f135 : a'.tmps[135]?.getD undef = .slice A9 ms'.length c9 := (Array.getD_eq_getD_getElem? ..).symm.trans e135
              clear e135
              go_simp
            · intro a' w' K hI hd hq hK
              have hg := hd 7 133 (by kernel_rfl)
              have e7 : a'.eval (.tmp 7) = .pointer (some ⟨q, 0, none⟩) := (hq 7 (by kernel_rfl)).trans rfl
              clear hd hq
              refine op_value (wanted_on _ a' 7 133 false (by rfl) (by rfl) hg) (v := .pointer (some ⟨q, 0, none⟩)) (w'' := w') ?_ (hK _ _ hI (fun _ _ h => h) rfl)
              clear hK
              simp only [execOp, e7]
              have f7 : a'.tmps[7]?.getD undef = .pointer (some ⟨q, 0, none⟩) := (Array.getD_eq_getD_getElem? ..).symm.trans e7
              clear e7
              first | rfl | (go_simp <;> exact IntWalk.i64_in _ (by omega))
            · intro a' w' K hI hd hq hK
              have hg := hd 7 133 (by kernel_rfl)
              have e137 : a'.eval (.tmp 137) = .pointer (some ⟨q, 0, none⟩) := (hd 11 137 (by kernel_rfl))
              clear hd hq
              refine op_value (wanted_on _ a' 7 133 false (by rfl) (by rfl) hg) (v := .pointer (some ⟨q, 0, none⟩)) (w'' := w') ?_ (hK _ _ hI (fun _ _ h => h) rfl)
              clear hK
              simp only [execOp, e137]
              have f137 : a'.tmps[137]?.getD undef = .pointer (some ⟨q, 0, none⟩) := (Array.getD_eq_getD_getElem? ..).symm.trans e137
              clear e137
              first | rfl | (go_simp <;> exact IntWalk.i64_in _ (by omega))
            · intro a' w' K hI hd hq hK
              have hg := hd 7 133 (by kernel_rfl)
              have e138 : a'.eval (.tmp 138) = .pointer (some ⟨q, 0, none⟩) := (hd 12 138 (by kernel_rfl))
              clear hd hq
              refine op_value (wanted_on _ a' 7 133 false (by rfl) (by rfl) hg) (v := .pointer (some ⟨q, 1, none⟩)) (w'' := w') ?_ (hK _ _ hI (fun _ _ h => h) rfl)
              clear hK
              simp only [execOp, e138]
              have f138 : a'.tmps[138]?.getD undef = .pointer (some ⟨q, 0, none⟩) := (Array.getD_eq_getD_getElem? ..).symm.trans e138
              clear e138
              first | rfl | (go_simp <;> exact IntWalk.i64_in _ (by omega))
            · intro a' w' K hI hd hq hK
              have hg := hd 7 133 (by kernel_rfl)
              have e139 : a'.eval (.tmp 139) = .pointer (some ⟨q, 1, none⟩) := (hd 13 139 (by kernel_rfl))
              clear hd hq
              obtain ⟨A9, c9, c0, _⟩ := NZ.ref1 hI
              refine op_value (wanted_on _ a' 7 133 false (by rfl) (by rfl) hg) (v := .slice A9 ms'.length c9) (w'' := w') ?_ (hK _ _ hI (fun _ _ h => h) ⟨A9, c9, rfl⟩)
              clear hK hI
              simp only [execOp, e139]
              have f139 : a'.tmps[139]?.getD undef = .pointer (some ⟨q, 1, none⟩) := (Array.getD_eq_getD_getElem? ..).symm.trans e139
              clear e139
              go_simp
            · intro a' w' K hI hd hq hK
              have hg := hd 7 133 (by kernel_rfl)
              have e140 := hd 14 140 (by kernel_rfl)
              clear hd hq
              obtain ⟨A9, c9, e140⟩ := (show ∃ A9 c9, a'.eval (.tmp 140) = .slice A9 ms'.length c9 from e140)
              refine op_value (wanted_on _ a' 7 133 false (by rfl) (by rfl) hg) (v := .int .i64 (ms'.length : Int)) (w'' := w') ?_ (hK _ _ hI (fun _ _ h => h) rfl)
              clear hK hI
              simp only [execOp]
              have f140 : a'.tmps[140]?.getD undef = .slice A9 ms'.length c9 := (Array.getD_eq_getD_getElem? ..).symm.trans e140
              clear e140
              go_simp
            · intro a' w' K hI hd hq hK
              have hg := hd 7 133 (by kernel_rfl)
              have e136 : a'.eval (.tmp 136) = .int .i64 (ms'.length : Int) := (hd 10 136 (by kernel_rfl))
              have e141 : a'.eval (.tmp 141) = .int .i64 (ms'.length : Int) := (hd 15 141 (by kernel_rfl))
              clear hd hq
              refine op_value (wanted_on _ a' 7 133 false (by rfl) (by rfl) hg) (v := .bool false) (w'' := w') ?_ (hK _ _ hI (fun _ _ h => h) rfl)
              clear hK
              simp only [execOp, e136, e141]
              have f136 : a'.tmps[136]?.getD undef = .int .i64 (ms'.length : Int) := (Array.getD_eq_getD_getElem? ..).symm.trans e136
              have f141 : a'.tmps[141]?.getD undef = .int .i64 (ms'.length : Int) := (Array.getD_eq_getD_getElem? ..).symm.trans e141
              clear e136 e141
              first | rfl | (go_simp <;> exact IntWalk.i64_in _ (by omega))
            · intro a' w' K hI hd hq hK
              have e133 : a'.eval (.tmp 133) = .bool false := (hd 7 133 (by kernel_rfl))
              have e142 : a'.eval (.tmp 142) = .bool false := (hd 16 142 (by kernel_rfl))
              clear hd hq
              refine op_value (wanted_free _ _ (by rfl)) (v := .bool false) (w'' := w') ?_ (hK _ _ hI (fun _ _ h => h) rfl)
              clear hK
              simp only [execOp, e133, e142]
              have f133 : a'.tmps[133]?.getD undef = .bool false := (Array.getD_eq_getD_getElem? ..).symm.trans e133
              have f142 : a'.tmps[142]?.getD undef = .bool false := (Array.getD_eq_getD_getElem? ..).symm.trans e142
              clear e133 e142
              first | rfl | (go_simp <;> exact IntWalk.i64_in _ (by omega))
          case fin25 =>
            rintro w' hI _ rfl _ rfl _ rfl _ rfl _ rfl _ rfl _ rfl _ rfl _ rfl _ ⟨A9, c9, rfl⟩ _ rfl _ rfl _ rfl _ rfl _ ⟨A10, c10, rfl⟩ _ rfl _ rfl _ rfl
            simp only [Act.put, List.setIfInBounds_toArray, List.set_cons_zero, List.set_cons_succ, FinGoal]
            have HE := Lib.hid hI
            clear hI
            go_wp2_with fail
            go_roundg (120 - (i + 1))
            case measure => have := HK.out; have := HLT120.out; omega
            case rel => exact ⟨i + 1, s', ms', HLT.out, HLT120.out, rfl, by go_num, HS0'.out, by have := HS1'.out; have := HSI.out; omega, HE.out⟩
      · have hd2 : ¬ (i < L.length) ∨ ¬ (i < 120) := by omega
        have HD2 := Lib.hid hd2
        clear hd2 hlt
        have HLM := Lib.hid (show ms.length ≤ 512 by obtain ⟨v, u, hp, _⟩ := HG.out; exact hp.len1)
        have hms : ms.length ≤ 9223372036854775807 := by have := HLM.out; omega
        by_cases hA : i < L.length
        · have h80 : decide ((i : Int) < 120) = false := by have := HD2.out; simp; omega
          go_wp2_with fail
          refine (NZ.pending HG.out).mono ?_
          rintro e w9 ⟨x, M, rfl, hm, ho, hf, hb⟩
          obtain ⟨Ax, cx, rfl, _⟩ := own_slice ho
          have HM := Lib.hid hm
          have HO := Lib.hid ho
          have HF := Lib.hid hf
          have HB9 := Lib.hid (below_below HG.out.bel HG.out.bel.size hb)
          obtain ⟨Aq, cL, KQ, hRq⟩ := NZ.ref1 (HG.out.below hb)
          have HRQ := Lib.hid hRq
          clear hm ho hf hb hRq
          go_wp2_with fail
          go_loopg [15] ms.length (fun k s15 wr => ∃ (j : Nat), j ≤ ms.length ∧ k = ms.length - j ∧ s15 = .int .i64 (j : Int) ∧ Below w9.heap.size w9 wr)
          case atStart => exact ⟨0, Nat.zero_le _, by omega, rfl, Below.refl _ _⟩
          case round =>
            obtain ⟨j, hj, hkj, rfl, hbr⟩ := hrel
            have HBR := Lib.hid hbr
            have HKJ := Lib.hid hkj
            clear hbr hkj
            by_cases hlj : j < ms.length
            · obtain ⟨bx, cx2, hxe, _, _⟩ := own_form HO.out (by omega)
              cases hxe
              obtain ⟨gb, go, rfl, hcr⟩ := HRQ.out.parts (by rw [rcells_length]; omega)
              have hml : M.length = ms.length := by rw [← HM.out, List.length_map]
              have hjM : j < M.length := by omega
              have hmg := mcells_get M j hjM
              have K0 := HO.out.cellAt (j * 3) (by omega)
              have K1 := HO.out.cellAt (j * 3 + 1) (by omega)
              have K2 := HO.out.cellAt (j * 3 + 2) (by omega)
              rw [hmg.1] at K0
              rw [hmg.2.1] at K1
              rw [hmg.2.2] at K2
              have hrg := rcells_get ms j hlj
              have R0 := hcr _ _ hrg.1
              have R1 := hcr _ _ hrg.2.1
              have R2 := hcr _ _ hrg.2.2
              rw [← Nat.add_assoc] at R1 R2
              have hpl : ms[j] = M[j].plain := by
                have e := HM.out
                subst e
                rw [List.getElem_map]
              rw [hpl] at R0 R1 R2
              have hrb : RB w9 M[j].A M[j].b := (HF.out M[j] (List.getElem_mem hjM)).1.body.r
              obtain ⟨⟨mf, mt, mA, mc, mb⟩, hMj⟩ : ∃ m, m = M[j] := ⟨_, rfl⟩
              rw [← hMj] at K0 K1 K2 R0 R1 R2 hrb
              dsimp only [Ms.plain] at K0 K1 K2 R0 R1 R2 hrb
              obtain ⟨zb, hzb⟩ : ∃ zb : ByteArray, zb = ⟨mb.toArray⟩ := ⟨_, rfl⟩
              rw [← hzb] at R2
              have HZB := Lib.hid hzb
              have HMB := Lib.hid hrb
              have KM0 := K0
              have KM1 := K1
              have KM2 := K2
              have KR0 := R0
              have KR1 := R1
              have KR2 := R2
              have HLJ := Lib.hid hlj
              clear K0 K1 K2 R0 R1 R2 hmg hrg hpl hMj hzb hrb hcr hml hjM
              have j0 : (0 : Int) ≤ (j : Int) := by omega
              have j1 : (j : Int) < (ms.length : Int) := by omega
              go_upto_region 31 with fail
              refine region_by (fun W => Below w9.heap.size w9 W) [(fun v _ => v = .slice (some ⟨bx, 0, none⟩) ms.length cx), (fun v _ => v = .int .i64 (j : Int)), (fun v _ => v = .pointer (some ⟨bx, j * 3, none⟩)), (fun v _ => v = .agg #[.int .i64 mf, .int .i64 mt, .slice mA mb.length mc]), (fun v _ => v = .pointer (some ⟨q, 0, none⟩)), (fun v _ => v = .pointer (some ⟨q, 0, none⟩)), (fun v _ => v = .pointer (some ⟨q, 1, none⟩)), (fun v _ => v = .slice (some ⟨gb, go, none⟩) ms.length cL), (fun v _ => v = .int .i64 (j : Int)), (fun v _ => v = .pointer (some ⟨gb, go + j * 3, none⟩)), (fun v _ => v = .agg #[.int .i64 mf, .int .i64 mt, .string zb]), fun v _ => v = .bool true, (fun v _ => v = .bool false)] (by kernel_rfl) (by kernel_rfl) (by kernel_rfl) rfl (HBR.out.drew) ?ok31 ?fin31
              case ok31 =>
                refine ⟨?_, ?_, ?_, ?_, ?_, ?_, ?_, ?_, ?_, ?_, ?_, ?_, ?_, trivial⟩
                · intro a' w' K hI hd hq hK
                  have e14 : a'.eval (.tmp 14) = .slice (some ⟨bx, 0, none⟩) ms.length cx := (hq 14 (by kernel_rfl)).trans rfl
                  clear hd hq
                  refine op_value (wanted_free _ _ (by rfl)) (v := .slice (some ⟨bx, 0, none⟩) ms.length cx) (w'' := w') ?_ (hK _ _ hI (fun _ _ h => h) rfl)
                  clear hK
                  simp only [execOp, e14]
                  have f14 : a'.tmps[14]?.getD undef = .slice (some ⟨bx, 0, none⟩) ms.length cx := (Array.getD_eq_getD_getElem? ..).symm.trans e14
                  clear e14
                  first | rfl | (go_simp <;> exact IntWalk.i64_in _ (by omega))
                · intro a' w' K hI hd hq hK
                  have e15 : a'.eval (.tmp 15) = .int .i64 (j : Int) := (hq 15 (by kernel_rfl)).trans rfl
                  clear hd hq
                  refine op_value (wanted_free _ _ (by rfl)) (v := .int .i64 (j : Int)) (w'' := w') ?_ (hK _ _ hI (fun _ _ h => h) rfl)
                  clear hK
                  simp only [execOp, e15]
                  have f15 : a'.tmps[15]?.getD undef = .int .i64 (j : Int) := (Array.getD_eq_getD_getElem? ..).symm.trans e15
                  clear e15
                  first | rfl | (go_simp <;> exact IntWalk.i64_in _ (by omega))
                · intro a' w' K hI hd hq hK
                  have e152 : a'.eval (.tmp 152) = .slice (some ⟨bx, 0, none⟩) ms.length cx := (hd 0 152 (by kernel_rfl))
                  have e153 : a'.eval (.tmp 153) = .int .i64 (j : Int) := (hd 1 153 (by kernel_rfl))
                  clear hd hq
                  refine op_value (wanted_free _ _ (by rfl)) (v := .pointer (some ⟨bx, j * 3, none⟩)) (w'' := w') ?_ (hK _ _ hI (fun _ _ h => h) rfl)
                  clear hK
                  simp only [execOp, e152, e153]
                  have f152 : a'.tmps[152]?.getD undef = .slice (some ⟨bx, 0, none⟩) ms.length cx := (Array.getD_eq_getD_getElem? ..).symm.trans e152
                  have f153 : a'.tmps[153]?.getD undef = .int .i64 (j : Int) := (Array.getD_eq_getD_getElem? ..).symm.trans e153
                  clear e152 e153
                  first | rfl | (go_simp <;> exact IntWalk.i64_in _ (by omega))
                · intro a' w' K hI hd hq hK
                  have e154 : a'.eval (.tmp 154) = .pointer (some ⟨bx, j * 3, none⟩) := (hd 2 154 (by kernel_rfl))
                  clear hd hq
                  have c0 := cell_below hI KM0
                  have c1 := cell_below hI KM1
                  have c2 := cell_below hI KM2
                  refine op_value (wanted_free _ _ (by rfl)) (v := .agg #[.int .i64 mf, .int .i64 mt, .slice mA mb.length mc]) (w'' := w') ?_ (hK _ _ hI (fun _ _ h => h) rfl)
                  clear hK
                  simp only [execOp, e154]
                  have f154 : a'.tmps[154]?.getD undef = .pointer (some ⟨bx, j * 3, none⟩) := (Array.getD_eq_getD_getElem? ..).symm.trans e154
                  clear e154
                  first | rfl | (go_simp <;> exact IntWalk.i64_in _ (by omega))
                · intro a' w' K hI hd hq hK
                  have e7 : a'.eval (.tmp 7) = .pointer (some ⟨q, 0, none⟩) := (hq 7 (by kernel_rfl)).trans rfl
                  clear hd hq
                  refine op_value (wanted_free _ _ (by rfl)) (v := .pointer (some ⟨q, 0, none⟩)) (w'' := w') ?_ (hK _ _ hI (fun _ _ h => h) rfl)
                  clear hK
                  simp only [execOp, e7]
                  have f7 : a'.tmps[7]?.getD undef = .pointer (some ⟨q, 0, none⟩) := (Array.getD_eq_getD_getElem? ..).symm.trans e7
                  clear e7
                  first | rfl | (go_simp <;> exact IntWalk.i64_in _ (by omega))
                · intro a' w' K hI hd hq hK
                  have e156 : a'.eval (.tmp 156) = .pointer (some ⟨q, 0, none⟩) := (hd 4 156 (by kernel_rfl))
                  clear hd hq
                  refine op_value (wanted_free _ _ (by rfl)) (v := .pointer (some ⟨q, 0, none⟩)) (w'' := w') ?_ (hK _ _ hI (fun _ _ h => h) rfl)
                  clear hK
                  simp only [execOp, e156]
                  have f156 : a'.tmps[156]?.getD undef = .pointer (some ⟨q, 0, none⟩) := (Array.getD_eq_getD_getElem? ..).symm.trans e156
                  clear e156
                  first | rfl | (go_simp <;> exact IntWalk.i64_in _ (by omega))
                · intro a' w' K hI hd hq hK
                  have e157 : a'.eval (.tmp 157) = .pointer (some ⟨q, 0, none⟩) := (hd 5 157 (by kernel_rfl))
                  clear hd hq
                  refine op_value (wanted_free _ _ (by rfl)) (v := .pointer (some ⟨q, 1, none⟩)) (w'' := w') ?_ (hK _ _ hI (fun _ _ h => h) rfl)
                  clear hK
                  simp only [execOp, e157]
                  have f157 : a'.tmps[157]?.getD undef = .pointer (some ⟨q, 0, none⟩) := (Array.getD_eq_getD_getElem? ..).symm.trans e157
                  clear e157
                  first | rfl | (go_simp <;> exact IntWalk.i64_in _ (by omega))
                · intro a' w' K hI hd hq hK
                  have e158 : a'.eval (.tmp 158) = .pointer (some ⟨q, 1, none⟩) := (hd 6 158 (by kernel_rfl))
                  clear hd hq
                  have c0 := cell_below hI KQ
                  refine op_value (wanted_free _ _ (by rfl)) (v := .slice (some ⟨gb, go, none⟩) ms.length cL) (w'' := w') ?_ (hK _ _ hI (fun _ _ h => h) rfl)
                  clear hK
                  simp only [execOp, e158]
                  have f158 : a'.tmps[158]?.getD undef = .pointer (some ⟨q, 1, none⟩) := (Array.getD_eq_getD_getElem? ..).symm.trans e158
                  clear e158
                  first | rfl | (go_simp <;> exact IntWalk.i64_in _ (by omega))
                · intro a' w' K hI hd hq hK
                  have e15 : a'.eval (.tmp 15) = .int .i64 (j : Int) := (hq 15 (by kernel_rfl)).trans rfl
                  clear hd hq
                  refine op_value (wanted_free _ _ (by rfl)) (v := .int .i64 (j : Int)) (w'' := w') ?_ (hK _ _ hI (fun _ _ h => h) rfl)
                  clear hK
                  simp only [execOp, e15]
                  have f15 : a'.tmps[15]?.getD undef = .int .i64 (j : Int) := (Array.getD_eq_getD_getElem? ..).symm.trans e15
                  clear e15
                  first | rfl | (go_simp <;> exact IntWalk.i64_in _ (by omega))
                · intro a' w' K hI hd hq hK
                  have e159 : a'.eval (.tmp 159) = .slice (some ⟨gb, go, none⟩) ms.length cL := (hd 7 159 (by kernel_rfl))
                  have e160 : a'.eval (.tmp 160) = .int .i64 (j : Int) := (hd 8 160 (by kernel_rfl))
                  clear hd hq
                  refine op_value (wanted_free _ _ (by rfl)) (v := .pointer (some ⟨gb, go + j * 3, none⟩)) (w'' := w') ?_ (hK _ _ hI (fun _ _ h => h) rfl)
                  clear hK
                  simp only [execOp, e159, e160]
                  have f159 : a'.tmps[159]?.getD undef = .slice (some ⟨gb, go, none⟩) ms.length cL := (Array.getD_eq_getD_getElem? ..).symm.trans e159
                  have f160 : a'.tmps[160]?.getD undef = .int .i64 (j : Int) := (Array.getD_eq_getD_getElem? ..).symm.trans e160
                  clear e159 e160
                  first | rfl | (go_simp <;> exact IntWalk.i64_in _ (by omega))
                · intro a' w' K hI hd hq hK
                  have e161 : a'.eval (.tmp 161) = .pointer (some ⟨gb, go + j * 3, none⟩) := (hd 9 161 (by kernel_rfl))
                  clear hd hq
                  have c0 := cell_below hI KR0
                  have c1 := cell_below hI KR1
                  have c2 := cell_below hI KR2
                  refine op_value (wanted_free _ _ (by rfl)) (v := .agg #[.int .i64 mf, .int .i64 mt, .string zb]) (w'' := w') ?_ (hK _ _ hI (fun _ _ h => h) rfl)
                  clear hK
                  simp only [execOp, e161]
                  have f161 : a'.tmps[161]?.getD undef = .pointer (some ⟨gb, go + j * 3, none⟩) := (Array.getD_eq_getD_getElem? ..).symm.trans e161
                  clear e161
                  first | rfl | (go_simp <;> exact IntWalk.i64_in _ (by omega))
                · intro a' w' K hI hd hq hK
                  have e155 : a'.eval (.tmp 155) = .agg #[.int .i64 mf, .int .i64 mt, .slice mA mb.length mc] := (hd 3 155 (by kernel_rfl))
                  have e162 : a'.eval (.tmp 162) = .agg #[.int .i64 mf, .int .i64 mt, .string zb] := (hd 10 162 (by kernel_rfl))
                  clear hd hq
                  refine op_call #[.agg #[.int .i64 mf, .int .i64 mt, .slice mA mb.length mc], .agg #[.int .i64 mf, .int .i64 mt, .string zb]] (wanted_free _ _ (by rfl)) rfl Try.func37 (by kernel_rfl) rfl (by simp [e155, e162]) ?_
                  rw [HZB.out]
                  refine (same_eq mf mt mA mc mb w' (HMB.out.below hI)).mono ?_
                  rintro e w6 ⟨rfl, hb⟩
                  exact ⟨_, rfl, hK _ _ (below_below hI hI.size hb) (fun j u => by match j with | 0 | 1 | 2 | 3 | 4 | 5 | 6 | 7 | 8 | 9 | 10 | 11 | 12 => exact fun h => h | _ + 13 => exact fun _ => trivial) rfl⟩
                · intro a' w' K hI hd hq hK
                  have e163 : a'.eval (.tmp 163) = .bool true := (hd 11 163 (by kernel_rfl))
                  clear hd hq
                  refine op_value (wanted_free _ _ (by rfl)) (v := .bool false) (w'' := w') ?_ (hK _ _ hI (fun _ _ h => h) rfl)
                  clear hK
                  simp only [execOp, e163]
                  have f163 : a'.tmps[163]?.getD undef = .bool true := (Array.getD_eq_getD_getElem? ..).symm.trans e163
                  clear e163
                  first | rfl | (go_simp <;> exact IntWalk.i64_in _ (by omega))
              case fin31 =>
                rintro w' hI _ rfl _ rfl _ rfl _ rfl _ rfl _ rfl _ rfl _ rfl _ rfl _ rfl _ rfl _ rfl _ rfl
                simp only [Act.put, List.setIfInBounds_toArray, List.set_cons_zero, List.set_cons_succ, FinGoal]
                have HE := Lib.hid hI
                clear hI KM0 KM1 KM2 KR0 KR1 KR2
                go_wp2_with fail
                go_roundg (ms.length - (j + 1))
                case measure => have := HKJ.out; have := HLJ.out; omega
                case rel => exact ⟨j + 1, HLJ.out, rfl, by go_num, HE.out⟩
            · have hjn : decide ((j : Int) < (ms.length : Int)) = false := by simp; omega
              go_wp2_with fail
              refine (known5_any _).mono ?_
              rintro e w10 ⟨rfl, hb10⟩
              have B10 := Lib.hid (below_below (below_below HB9.out HB9.out.size HBR.out) (below_below HB9.out HB9.out.size HBR.out).size hb10)
              clear hb10
              go_wp2_with fail
              go_ret
              exact ⟨rfl, B10.out⟩
        · have hA' : decide ((i : Int) < (L.length : Int)) = false := by simp; omega
          go_wp2_with fail
          refine (NZ.pending HG.out).mono ?_
          rintro e w9 ⟨x, M, rfl, hm, ho, hf, hb⟩
          obtain ⟨Ax, cx, rfl, _⟩ := own_slice ho
          have HM := Lib.hid hm
          have HO := Lib.hid ho
          have HF := Lib.hid hf
          have HB9 := Lib.hid (below_below HG.out.bel HG.out.bel.size hb)
          obtain ⟨Aq, cL, KQ, hRq⟩ := NZ.ref1 (HG.out.below hb)
          have HRQ := Lib.hid hRq
          clear hm ho hf hb hRq
          go_wp2_with fail
          go_loopg [15] ms.length (fun k s15 wr => ∃ (j : Nat), j ≤ ms.length ∧ k = ms.length - j ∧ s15 = .int .i64 (j : Int) ∧ Below w9.heap.size w9 wr)
          case atStart => exact ⟨0, Nat.zero_le _, by omega, rfl, Below.refl _ _⟩
          case round =>
            obtain ⟨j, hj, hkj, rfl, hbr⟩ := hrel
            have HBR := Lib.hid hbr
            have HKJ := Lib.hid hkj
            clear hbr hkj
            by_cases hlj : j < ms.length
            · obtain ⟨bx, cx2, hxe, _, _⟩ := own_form HO.out (by omega)
              cases hxe
              obtain ⟨gb, go, rfl, hcr⟩ := HRQ.out.parts (by rw [rcells_length]; omega)
              have hml : M.length = ms.length := by rw [← HM.out, List.length_map]
              have hjM : j < M.length := by omega
              have hmg := mcells_get M j hjM
              have K0 := HO.out.cellAt (j * 3) (by omega)
              have K1 := HO.out.cellAt (j * 3 + 1) (by omega)
              have K2 := HO.out.cellAt (j * 3 + 2) (by omega)
              rw [hmg.1] at K0
              rw [hmg.2.1] at K1
              rw [hmg.2.2] at K2
              have hrg := rcells_get ms j hlj
              have R0 := hcr _ _ hrg.1
              have R1 := hcr _ _ hrg.2.1
              have R2 := hcr _ _ hrg.2.2
              rw [← Nat.add_assoc] at R1 R2
              have hpl : ms[j] = M[j].plain := by
                have e := HM.out
                subst e
                rw [List.getElem_map]
              rw [hpl] at R0 R1 R2
              have hrb : RB w9 M[j].A M[j].b := (HF.out M[j] (List.getElem_mem hjM)).1.body.r
              obtain ⟨⟨mf, mt, mA, mc, mb⟩, hMj⟩ : ∃ m, m = M[j] := ⟨_, rfl⟩
              rw [← hMj] at K0 K1 K2 R0 R1 R2 hrb
              dsimp only [Ms.plain] at K0 K1 K2 R0 R1 R2 hrb
              obtain ⟨zb, hzb⟩ : ∃ zb : ByteArray, zb = ⟨mb.toArray⟩ := ⟨_, rfl⟩
              rw [← hzb] at R2
              have HZB := Lib.hid hzb
              have HMB := Lib.hid hrb
              have KM0 := K0
              have KM1 := K1
              have KM2 := K2
              have KR0 := R0
              have KR1 := R1
              have KR2 := R2
              have HLJ := Lib.hid hlj
              clear K0 K1 K2 R0 R1 R2 hmg hrg hpl hMj hzb hrb hcr hml hjM
              have j0 : (0 : Int) ≤ (j : Int) := by omega
              have j1 : (j : Int) < (ms.length : Int) := by omega
              go_upto_region 31 with fail
              refine region_by (fun W => Below w9.heap.size w9 W) [(fun v _ => v = .slice (some ⟨bx, 0, none⟩) ms.length cx), (fun v _ => v = .int .i64 (j : Int)), (fun v _ => v = .pointer (some ⟨bx, j * 3, none⟩)), (fun v _ => v = .agg #[.int .i64 mf, .int .i64 mt, .slice mA mb.length mc]), (fun v _ => v = .pointer (some ⟨q, 0, none⟩)), (fun v _ => v = .pointer (some ⟨q, 0, none⟩)), (fun v _ => v = .pointer (some ⟨q, 1, none⟩)), (fun v _ => v = .slice (some ⟨gb, go, none⟩) ms.length cL), (fun v _ => v = .int .i64 (j : Int)), (fun v _ => v = .pointer (some ⟨gb, go + j * 3, none⟩)), (fun v _ => v = .agg #[.int .i64 mf, .int .i64 mt, .string zb]), fun v _ => v = .bool true, (fun v _ => v = .bool false)] (by kernel_rfl) (by kernel_rfl) (by kernel_rfl) rfl (HBR.out.drew) ?ok31 ?fin31
              case ok31 =>
                refine ⟨?_, ?_, ?_, ?_, ?_, ?_, ?_, ?_, ?_, ?_, ?_, ?_, ?_, trivial⟩
                · intro a' w' K hI hd hq hK
                  have e14 : a'.eval (.tmp 14) = .slice (some ⟨bx, 0, none⟩) ms.length cx := (hq 14 (by kernel_rfl)).trans rfl
                  clear hd hq
                  refine op_value (wanted_free _ _ (by rfl)) (v := .slice (some ⟨bx, 0, none⟩) ms.length cx) (w'' := w') ?_ (hK _ _ hI (fun _ _ h => h) rfl)
                  clear hK
                  simp only [execOp, e14]
                  have f14 : a'.tmps[14]?.getD undef = .slice (some ⟨bx, 0, none⟩) ms.length cx := (Array.getD_eq_getD_getElem? ..).symm.trans e14
                  clear e14
                  first | rfl | (go_simp <;> exact IntWalk.i64_in _ (by omega))
                · intro a' w' K hI hd hq hK
                  have e15 : a'.eval (.tmp 15) = .int .i64 (j : Int) := (hq 15 (by kernel_rfl)).trans rfl
                  clear hd hq
                  refine op_value (wanted_free _ _ (by rfl)) (v := .int .i64 (j : Int)) (w'' := w') ?_ (hK _ _ hI (fun _ _ h => h) rfl)
                  clear hK
                  simp only [execOp, e15]
                  have f15 : a'.tmps[15]?.getD undef = .int .i64 (j : Int) := (Array.getD_eq_getD_getElem? ..).symm.trans e15
                  clear e15
                  first | rfl | (go_simp <;> exact IntWalk.i64_in _ (by omega))
                · intro a' w' K hI hd hq hK
                  have e152 : a'.eval (.tmp 152) = .slice (some ⟨bx, 0, none⟩) ms.length cx := (hd 0 152 (by kernel_rfl))
                  have e153 : a'.eval (.tmp 153) = .int .i64 (j : Int) := (hd 1 153 (by kernel_rfl))
                  clear hd hq
                  refine op_value (wanted_free _ _ (by rfl)) (v := .pointer (some ⟨bx, j * 3, none⟩)) (w'' := w') ?_ (hK _ _ hI (fun _ _ h => h) rfl)
                  clear hK
                  simp only [execOp, e152, e153]
                  have f152 : a'.tmps[152]?.getD undef = .slice (some ⟨bx, 0, none⟩) ms.length cx := (Array.getD_eq_getD_getElem? ..).symm.trans e152
                  have f153 : a'.tmps[153]?.getD undef = .int .i64 (j : Int) := (Array.getD_eq_getD_getElem? ..).symm.trans e153
                  clear e152 e153
                  first | rfl | (go_simp <;> exact IntWalk.i64_in _ (by omega))
                · intro a' w' K hI hd hq hK
                  have e154 : a'.eval (.tmp 154) = .pointer (some ⟨bx, j * 3, none⟩) := (hd 2 154 (by kernel_rfl))
                  clear hd hq
                  have c0 := cell_below hI KM0
                  have c1 := cell_below hI KM1
                  have c2 := cell_below hI KM2
                  refine op_value (wanted_free _ _ (by rfl)) (v := .agg #[.int .i64 mf, .int .i64 mt, .slice mA mb.length mc]) (w'' := w') ?_ (hK _ _ hI (fun _ _ h => h) rfl)
                  clear hK
                  simp only [execOp, e154]
                  have f154 : a'.tmps[154]?.getD undef = .pointer (some ⟨bx, j * 3, none⟩) := (Array.getD_eq_getD_getElem? ..).symm.trans e154
                  clear e154
                  first | rfl | (go_simp <;> exact IntWalk.i64_in _ (by omega))
                · intro a' w' K hI hd hq hK
                  have e7 : a'.eval (.tmp 7) = .pointer (some ⟨q, 0, none⟩) := (hq 7 (by kernel_rfl)).trans rfl
                  clear hd hq
                  refine op_value (wanted_free _ _ (by rfl)) (v := .pointer (some ⟨q, 0, none⟩)) (w'' := w') ?_ (hK _ _ hI (fun _ _ h => h) rfl)
                  clear hK
                  simp only [execOp, e7]
                  have f7 : a'.tmps[7]?.getD undef = .pointer (some ⟨q, 0, none⟩) := (Array.getD_eq_getD_getElem? ..).symm.trans e7
                  clear e7
                  first | rfl | (go_simp <;> exact IntWalk.i64_in _ (by omega))
                · intro a' w' K hI hd hq hK
                  have e156 : a'.eval (.tmp 156) = .pointer (some ⟨q, 0, none⟩) := (hd 4 156 (by kernel_rfl))
                  clear hd hq
                  refine op_value (wanted_free _ _ (by rfl)) (v := .pointer (some ⟨q, 0, none⟩)) (w'' := w') ?_ (hK _ _ hI (fun _ _ h => h) rfl)
                  clear hK
                  simp only [execOp, e156]
                  have f156 : a'.tmps[156]?.getD undef = .pointer (some ⟨q, 0, none⟩) := (Array.getD_eq_getD_getElem? ..).symm.trans e156
                  clear e156
                  first | rfl | (go_simp <;> exact IntWalk.i64_in _ (by omega))
                · intro a' w' K hI hd hq hK
                  have e157 : a'.eval (.tmp 157) = .pointer (some ⟨q, 0, none⟩) := (hd 5 157 (by kernel_rfl))
                  clear hd hq
                  refine op_value (wanted_free _ _ (by rfl)) (v := .pointer (some ⟨q, 1, none⟩)) (w'' := w') ?_ (hK _ _ hI (fun _ _ h => h) rfl)
                  clear hK
                  simp only [execOp, e157]
                  have f157 : a'.tmps[157]?.getD undef = .pointer (some ⟨q, 0, none⟩) := (Array.getD_eq_getD_getElem? ..).symm.trans e157
                  clear e157
                  first | rfl | (go_simp <;> exact IntWalk.i64_in _ (by omega))
                · intro a' w' K hI hd hq hK
                  have e158 : a'.eval (.tmp 158) = .pointer (some ⟨q, 1, none⟩) := (hd 6 158 (by kernel_rfl))
                  clear hd hq
                  have c0 := cell_below hI KQ
                  refine op_value (wanted_free _ _ (by rfl)) (v := .slice (some ⟨gb, go, none⟩) ms.length cL) (w'' := w') ?_ (hK _ _ hI (fun _ _ h => h) rfl)
                  clear hK
                  simp only [execOp, e158]
                  have f158 : a'.tmps[158]?.getD undef = .pointer (some ⟨q, 1, none⟩) := (Array.getD_eq_getD_getElem? ..).symm.trans e158
                  clear e158
                  first | rfl | (go_simp <;> exact IntWalk.i64_in _ (by omega))
                · intro a' w' K hI hd hq hK
                  have e15 : a'.eval (.tmp 15) = .int .i64 (j : Int) := (hq 15 (by kernel_rfl)).trans rfl
                  clear hd hq
                  refine op_value (wanted_free _ _ (by rfl)) (v := .int .i64 (j : Int)) (w'' := w') ?_ (hK _ _ hI (fun _ _ h => h) rfl)
                  clear hK
                  simp only [execOp, e15]
                  have f15 : a'.tmps[15]?.getD undef = .int .i64 (j : Int) := (Array.getD_eq_getD_getElem? ..).symm.trans e15
                  clear e15
                  first | rfl | (go_simp <;> exact IntWalk.i64_in _ (by omega))
                · intro a' w' K hI hd hq hK
                  have e159 : a'.eval (.tmp 159) = .slice (some ⟨gb, go, none⟩) ms.length cL := (hd 7 159 (by kernel_rfl))
                  have e160 : a'.eval (.tmp 160) = .int .i64 (j : Int) := (hd 8 160 (by kernel_rfl))
                  clear hd hq
                  refine op_value (wanted_free _ _ (by rfl)) (v := .pointer (some ⟨gb, go + j * 3, none⟩)) (w'' := w') ?_ (hK _ _ hI (fun _ _ h => h) rfl)
                  clear hK
                  simp only [execOp, e159, e160]
                  have f159 : a'.tmps[159]?.getD undef = .slice (some ⟨gb, go, none⟩) ms.length cL := (Array.getD_eq_getD_getElem? ..).symm.trans e159
                  have f160 : a'.tmps[160]?.getD undef = .int .i64 (j : Int) := (Array.getD_eq_getD_getElem? ..).symm.trans e160
                  clear e159 e160
                  first | rfl | (go_simp <;> exact IntWalk.i64_in _ (by omega))
                · intro a' w' K hI hd hq hK
                  have e161 : a'.eval (.tmp 161) = .pointer (some ⟨gb, go + j * 3, none⟩) := (hd 9 161 (by kernel_rfl))
                  clear hd hq
                  have c0 := cell_below hI KR0
                  have c1 := cell_below hI KR1
                  have c2 := cell_below hI KR2
                  refine op_value (wanted_free _ _ (by rfl)) (v := .agg #[.int .i64 mf, .int .i64 mt, .string zb]) (w'' := w') ?_ (hK _ _ hI (fun _ _ h => h) rfl)
                  clear hK
                  simp only [execOp, e161]
                  have f161 : a'.tmps[161]?.getD undef = .pointer (some ⟨gb, go + j * 3, none⟩) := (Array.getD_eq_getD_getElem? ..).symm.trans e161
                  clear e161
                  first | rfl | (go_simp <;> exact IntWalk.i64_in _ (by omega))
                · intro a' w' K hI hd hq hK
                  have e155 : a'.eval (.tmp 155) = .agg #[.int .i64 mf, .int .i64 mt, .slice mA mb.length mc] := (hd 3 155 (by kernel_rfl))
                  have e162 : a'.eval (.tmp 162) = .agg #[.int .i64 mf, .int .i64 mt, .string zb] := (hd 10 162 (by kernel_rfl))
                  clear hd hq
                  refine op_call #[.agg #[.int .i64 mf, .int .i64 mt, .slice mA mb.length mc], .agg #[.int .i64 mf, .int .i64 mt, .string zb]] (wanted_free _ _ (by rfl)) rfl Try.func37 (by kernel_rfl) rfl (by simp [e155, e162]) ?_
                  rw [HZB.out]
                  refine (same_eq mf mt mA mc mb w' (HMB.out.below hI)).mono ?_
                  rintro e w6 ⟨rfl, hb⟩
                  exact ⟨_, rfl, hK _ _ (below_below hI hI.size hb) (fun j u => by match j with | 0 | 1 | 2 | 3 | 4 | 5 | 6 | 7 | 8 | 9 | 10 | 11 | 12 => exact fun h => h | _ + 13 => exact fun _ => trivial) rfl⟩
                · intro a' w' K hI hd hq hK
                  have e163 : a'.eval (.tmp 163) = .bool true := (hd 11 163 (by kernel_rfl))
                  clear hd hq
                  refine op_value (wanted_free _ _ (by rfl)) (v := .bool false) (w'' := w') ?_ (hK _ _ hI (fun _ _ h => h) rfl)
                  clear hK
                  simp only [execOp, e163]
                  have f163 : a'.tmps[163]?.getD undef = .bool true := (Array.getD_eq_getD_getElem? ..).symm.trans e163
                  clear e163
                  first | rfl | (go_simp <;> exact IntWalk.i64_in _ (by omega))
              case fin31 =>
                rintro w' hI _ rfl _ rfl _ rfl _ rfl _ rfl _ rfl _ rfl _ rfl _ rfl _ rfl _ rfl _ rfl _ rfl
                simp only [Act.put, List.setIfInBounds_toArray, List.set_cons_zero, List.set_cons_succ, FinGoal]
                have HE := Lib.hid hI
                clear hI KM0 KM1 KM2 KR0 KR1 KR2
                go_wp2_with fail
                go_roundg (ms.length - (j + 1))
                case measure => have := HKJ.out; have := HLJ.out; omega
                case rel => exact ⟨j + 1, HLJ.out, rfl, by go_num, HE.out⟩
            · have hjn : decide ((j : Int) < (ms.length : Int)) = false := by simp; omega
              go_wp2_with fail
              refine (known5_any _).mono ?_
              rintro e w10 ⟨rfl, hb10⟩
              have B10 := Lib.hid (below_below (below_below HB9.out HB9.out.size HBR.out) (below_below HB9.out HB9.out.size HBR.out).size hb10)
              clear hb10
              go_wp2_with fail
              go_ret
              exact ⟨rfl, B10.out⟩
  · have hbad : nodes < 1 ∨ 5 < nodes := by omega
    have HBAD := Lib.hid hbad
    have hk2 : ∀ W : World, W = W := fun _ => rfl
    clear hk2 hbad
    by_cases h1 : nodes < 1
    · clear hok
      go_enter Try.func12, Try.ntmps12
      go_wp2_with fail
      refine (netNew_no nodes _ HBAD.out).mono ?_
      rintro e w1 ⟨rfl, rfl⟩
      go_wp2_with fail
      refine (known5_any _).mono ?_
      rintro e w2 ⟨rfl, hb⟩
      have B := Lib.hid hb
      clear hb
      go_wp2_with fail
      go_ret
      exact ⟨rfl, B.out⟩
    · have h2 : 5 < nodes := by omega
      clear hok
      go_enter Try.func12, Try.ntmps12
      go_wp2_with fail
      refine (netNew_no nodes _ HBAD.out).mono ?_
      rintro e w1 ⟨rfl, rfl⟩
      go_wp2_with fail
      refine (known5_any _).mono ?_
      rintro e w2 ⟨rfl, hb⟩
      have B := Lib.hid hb
      clear hb
      go_wp2_with fail
      go_ret
      exact ⟨rfl, B.out⟩

end Go.Proofs.Ytkpkimhpecbkoaa
