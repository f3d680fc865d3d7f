/-
  The walk of the law's out: links as the document's own.
-/
import Derived.Test.YthlbmjjodjepjaaRefDec
set_option linter.unusedVariables false
set_option linter.unusedSimpArgs false
namespace Go.Proofs.Ythlbmjjodjepjaa
open Go.RowKit

/-- What stands while operation k, the append to vo, has not been done. -/
structure OutI (w : World) (k : Nat) (vo : Value) (i : Nat) (xs : List Value) (l : Array Bool) (W : World) : Prop where
  below : Below w.heap.size w W
  own : l.getD k false = false → W.ownsRow w.heap.size 84 33 vo i xs
theorem OutI.set {w : World} {k : Nat} {vo : Value} {i : Nat} {xs : List Value} {l : Array Bool} {W : World} (h : OutI w k vo i xs l W) (j : Nat) : OutI w k vo i xs (l.setIfInBounds j true) W := ⟨h.below, fun hl => h.own (unset hl)⟩
theorem OutI.grow {w : World} {k : Nat} {vo : Value} {i : Nat} {xs : List Value} {l : Array Bool} {W W' : World} (h : OutI w k vo i xs l W) (hb : Below W.heap.size W W') : OutI w k vo i xs l W' :=
  ⟨below_below h.below h.below.size hb, fun hl => own_below (h.own hl) hb⟩

set_option maxRecDepth 100000 in
set_option maxHeartbeats 8000000 in
theorem out_any (A : Option Addr) (n c : Nat) (M : List (List UInt8 × List UInt8)) (w : World) (hl : M.length = n) (hn : n ≤ 100000) (hh : ∀ x ∈ M, x.2.length = 32) (hr : RC w A (lv M)) :
    Calls Try.prog 49 #[.slice A n c] w fun e w' => ∃ v, e = .returned v ∧ w'.ownsRow w.heap.size 84 33 v M.length (lv M) ∧ Below w.heap.size w w' := by
  subst hl
  have HL := Lib.hid hr
  have HH := Lib.hid hh
  have HN := Lib.hid hn
  clear hr hh
  go_enter Try.func49, Try.ntmps49
  go_wp2_with fail
  go_loopg [3, 4] M.length (fun k s3 s4 wr => ∃ (i : Nat) (vo : Value), i ≤ M.length ∧ k = M.length - i ∧ s4 = .int .i64 (i : Int) ∧ s3 = vo ∧ wr.ownsRow w.heap.size 84 33 vo i (lv (M.take i)) ∧ Below w.heap.size w wr)
  case atStart => exact ⟨0, _, Nat.zero_le _, by omega, rfl, rfl, World.ownsRow_nil _ _ _ _, Below.refl _ _⟩
  case round =>
    obtain ⟨i, _, hi, hk, rfl, rfl, ho, hb⟩ := hrel
    have HK := Lib.hid hk
    have HO := Lib.hid ho
    have HB := Lib.hid hb
    clear hk ho hb
    by_cases hlt : i < M.length
    · obtain ⟨bl, ol, rfl, e1⟩ := HL.out.parts (by rw [lv_length _ HH.out]; omega)
      have hRG := lk_range HH.out e1 i hlt
      have hgl : (M[i]).2.length = 32 := HH.out _ (List.getElem_mem hlt)
      have HTK := Lib.hid (show M.take (i + 1) = M.take i ++ [M[i]] from List.take_succ_eq_append_getElem hlt)
      generalize M[i] = xg at *
      obtain ⟨x, g⟩ := xg
      simp only at hgl
      have HRM := Lib.hid (show ∀ W, Below w.heap.size w W → W.rangeAt bl (ol + i * 33 + 1) (bv g) from fun W h j v hj => by
        have := cell_below h (hRG (j + 1) v (by simpa [lk] using hj))
        rwa [show ol + i * 33 + (j + 1) = ol + i * 33 + 1 + j by omega] at this)
      have hs0 : ∀ W, Below w.heap.size w W → W.cell? ⟨bl, ol + i * 33, none⟩ = some (.string (strB x)) := fun W h => cell_below h (hRG 0 _ rfl)
      obtain ⟨sx, esx⟩ : ∃ sx, sx = strB x := ⟨_, rfl⟩
      rw [← esx] at hs0
      have HST := Lib.hid hs0
      have hlkl := lk_length (x, g) hgl
      obtain ⟨gc, egc⟩ : ∃ gc, gc = (bv g).toArray := ⟨_, rfl⟩
      obtain ⟨lc, elc⟩ : ∃ lc, lc = (lk (x, g)).toArray := ⟨_, rfl⟩
      have HF := Lib.hid (show Try.prog.built 84 [(0, .string sx), (1, .agg gc)] = some lc by rw [elc, egc, esx]; exact built_link2 x g hgl)
      have HF1 := Lib.hid (show Try.prog.builtSlice 84 1 [(0, .agg lc)] = some lc by rw [elc]; exact built_one2 x g hgl)
      have ELC := Lib.hid elc
      have EGC := Lib.hid egc
      have HLK := Lib.hid hlkl
      have HGLN := Lib.hid hgl
      have HLT := Lib.hid hlt
      have hi0 : (0 : Int) ≤ (i : Int) := by omega
      have hi1 : (i : Int) < (M.length : Int) := by omega
      have hiN : (i : Int) ≤ 100000 := by omega
      clear e1 hRG hgl hs0 esx hlkl elc egc hlt hi
      go_upto_region 5 with fail
      refine region_byM (OutI w 13 u3 i (lv (M.take i))) [fun v _ => v = u3, (fun v _ => v = .slice (some ⟨bl, ol, none⟩) M.length c), (fun v _ => v = .int .i64 (i : Int)), (fun v _ => v = .pointer (some ⟨bl, ol + i * 33, none⟩)), (fun v _ => v = .pointer (some ⟨bl, ol + i * 33, none⟩)), (fun v _ => v = .string sx), (fun v _ => v = .slice (some ⟨bl, ol, none⟩) M.length c), (fun v _ => v = .int .i64 (i : Int)), (fun v _ => v = .pointer (some ⟨bl, ol + i * 33, none⟩)), (fun v _ => v = .pointer (some ⟨bl, ol + i * 33 + 1, none⟩)), fun v _ => v = .agg gc, fun v _ => v = .agg lc, fun v w' => ∃ gN, v = .slice (some ⟨gN, 0, none⟩) 1 1 ∧ RC w' (some ⟨gN, 0, none⟩) (lk (x, g)) ∧ u3.ownBlock ≠ some gN, fun v w' => w'.ownsRow w.heap.size 84 33 v (i + 1) (lv (M.take (i + 1))), fun v w' => w'.ownsRow w.heap.size 84 33 v (i + 1) (lv (M.take (i + 1)))] (by kernel_rfl) (by kernel_rfl) (by kernel_rfl) rfl (⟨HB.out.drew, fun _ => HO.out.drew⟩) ?ok5 ?fin5
      case ok5 =>
        refine ⟨?_, ?_, ?_, ?_, ?_, ?_, ?_, ?_, ?_, ?_, ?_, ?_, ?_, ?_, ?_, trivial⟩
        · intro l a' w' K hI hcl hsz hn hd hq hK
          have e3 : a'.eval (.tmp 3) = u3 := (hq 3 (by kernel_rfl)).trans rfl
          clear hd hq
          refine op_value (wanted_free _ _ (by rfl)) (v := u3) (w'' := w') ?_ (hK _ _ (hI.set _) (fun _ _ _ h => h) rfl)
          simp only [execOp, e3, Sem.run_pure]
        · intro l a' w' K hI hcl hsz hn hd hq hK
          have e0 : a'.eval (.tmp 0) = .slice (some ⟨bl, ol, none⟩) M.length c := (hq 0 (by kernel_rfl)).trans rfl
          clear hd hq hcl hsz hn
          refine op_value (wanted_free _ _ (by rfl)) (v := .slice (some ⟨bl, ol, none⟩) M.length c) (w'' := w') ?_ (hK _ _ (hI.set _) (fun _ _ _ h => h) rfl)
          clear hK
          simp only [execOp, e0]
          have f0 : a'.tmps[0]?.getD undef = .slice (some ⟨bl, ol, none⟩) M.length c := (Array.getD_eq_getD_getElem? ..).symm.trans e0
          clear e0
          first | rfl | (go_simp <;> exact IntWalk.i64_in _ (by omega))
        · intro l a' w' K hI hcl hsz hn hd hq hK
          have e4 : a'.eval (.tmp 4) = .int .i64 (i : Int) := (hq 4 (by kernel_rfl)).trans rfl
          clear hd hq hcl hsz hn
          refine op_value (wanted_free _ _ (by rfl)) (v := .int .i64 (i : Int)) (w'' := w') ?_ (hK _ _ (hI.set _) (fun _ _ _ h => h) rfl)
          clear hK
          simp only [execOp, e4]
          have f4 : a'.tmps[4]?.getD undef = .int .i64 (i : Int) := (Array.getD_eq_getD_getElem? ..).symm.trans e4
          clear e4
          first | rfl | (go_simp <;> exact IntWalk.i64_in _ (by omega))
        · intro l a' w' K hI hcl hsz hn hd hq hK
          have e12 : a'.eval (.tmp 12) = .slice (some ⟨bl, ol, none⟩) M.length c := (hd 1 12 (by kernel_rfl))
          have e13 : a'.eval (.tmp 13) = .int .i64 (i : Int) := (hd 2 13 (by kernel_rfl))
          clear hd hq hcl hsz hn
          refine op_value (wanted_free _ _ (by rfl)) (v := .pointer (some ⟨bl, ol + i * 33, none⟩)) (w'' := w') ?_ (hK _ _ (hI.set _) (fun _ _ _ h => h) rfl)
          clear hK
          simp only [execOp, e12, e13]
          have f12 : a'.tmps[12]?.getD undef = .slice (some ⟨bl, ol, none⟩) M.length c := (Array.getD_eq_getD_getElem? ..).symm.trans e12
          have f13 : a'.tmps[13]?.getD undef = .int .i64 (i : Int) := (Array.getD_eq_getD_getElem? ..).symm.trans e13
          clear e12 e13
          first | rfl | (go_simp <;> exact IntWalk.i64_in _ (by omega))
        · intro l a' w' K hI hcl hsz hn hd hq hK
          have e14 : a'.eval (.tmp 14) = .pointer (some ⟨bl, ol + i * 33, none⟩) := (hd 3 14 (by kernel_rfl))
          clear hd hq hcl hsz hn
          refine op_value (wanted_free _ _ (by rfl)) (v := .pointer (some ⟨bl, ol + i * 33, none⟩)) (w'' := w') ?_ (hK _ _ (hI.set _) (fun _ _ _ h => h) rfl)
          clear hK
          simp only [execOp, e14]
          have f14 : a'.tmps[14]?.getD undef = .pointer (some ⟨bl, ol + i * 33, none⟩) := (Array.getD_eq_getD_getElem? ..).symm.trans e14
          clear e14
          first | rfl | (go_simp <;> exact IntWalk.i64_in _ (by omega))
        · intro l a' w' K hI hcl hsz hn hd hq hK
          have e15 : a'.eval (.tmp 15) = .pointer (some ⟨bl, ol + i * 33, none⟩) := (hd 4 15 (by kernel_rfl))
          clear hd hq hcl hsz hn
          have hst := HST.out w' hI.below
          refine op_value (wanted_free _ _ (by rfl)) (v := .string sx) (w'' := w') ?_ (hK _ _ (hI.set _) (fun _ _ _ h => h) rfl)
          clear hK
          simp only [execOp, e15]
          have f15 : a'.tmps[15]?.getD undef = .pointer (some ⟨bl, ol + i * 33, none⟩) := (Array.getD_eq_getD_getElem? ..).symm.trans e15
          clear e15
          first | rfl | (go_simp <;> exact IntWalk.i64_in _ (by omega))
        · intro l a' w' K hI hcl hsz hn hd hq hK
          have e0 : a'.eval (.tmp 0) = .slice (some ⟨bl, ol, none⟩) M.length c := (hq 0 (by kernel_rfl)).trans rfl
          clear hd hq hcl hsz hn
          refine op_value (wanted_free _ _ (by rfl)) (v := .slice (some ⟨bl, ol, none⟩) M.length c) (w'' := w') ?_ (hK _ _ (hI.set _) (fun _ _ _ h => h) rfl)
          clear hK
          simp only [execOp, e0]
          have f0 : a'.tmps[0]?.getD undef = .slice (some ⟨bl, ol, none⟩) M.length c := (Array.getD_eq_getD_getElem? ..).symm.trans e0
          clear e0
          first | rfl | (go_simp <;> exact IntWalk.i64_in _ (by omega))
        · intro l a' w' K hI hcl hsz hn hd hq hK
          have e4 : a'.eval (.tmp 4) = .int .i64 (i : Int) := (hq 4 (by kernel_rfl)).trans rfl
          clear hd hq hcl hsz hn
          refine op_value (wanted_free _ _ (by rfl)) (v := .int .i64 (i : Int)) (w'' := w') ?_ (hK _ _ (hI.set _) (fun _ _ _ h => h) rfl)
          clear hK
          simp only [execOp, e4]
          have f4 : a'.tmps[4]?.getD undef = .int .i64 (i : Int) := (Array.getD_eq_getD_getElem? ..).symm.trans e4
          clear e4
          first | rfl | (go_simp <;> exact IntWalk.i64_in _ (by omega))
        · intro l a' w' K hI hcl hsz hn hd hq hK
          have e17 : a'.eval (.tmp 17) = .slice (some ⟨bl, ol, none⟩) M.length c := (hd 6 17 (by kernel_rfl))
          have e18 : a'.eval (.tmp 18) = .int .i64 (i : Int) := (hd 7 18 (by kernel_rfl))
          clear hd hq hcl hsz hn
          refine op_value (wanted_free _ _ (by rfl)) (v := .pointer (some ⟨bl, ol + i * 33, none⟩)) (w'' := w') ?_ (hK _ _ (hI.set _) (fun _ _ _ h => h) rfl)
          clear hK
          simp only [execOp, e17, e18]
          have f17 : a'.tmps[17]?.getD undef = .slice (some ⟨bl, ol, none⟩) M.length c := (Array.getD_eq_getD_getElem? ..).symm.trans e17
          have f18 : a'.tmps[18]?.getD undef = .int .i64 (i : Int) := (Array.getD_eq_getD_getElem? ..).symm.trans e18
          clear e17 e18
          first | rfl | (go_simp <;> exact IntWalk.i64_in _ (by omega))
        · intro l a' w' K hI hcl hsz hn hd hq hK
          have e19 : a'.eval (.tmp 19) = .pointer (some ⟨bl, ol + i * 33, none⟩) := (hd 8 19 (by kernel_rfl))
          clear hd hq hcl hsz hn
          refine op_value (wanted_free _ _ (by rfl)) (v := .pointer (some ⟨bl, ol + i * 33 + 1, none⟩)) (w'' := w') ?_ (hK _ _ (hI.set _) (fun _ _ _ h => h) rfl)
          clear hK
          simp only [execOp, e19]
          have f19 : a'.tmps[19]?.getD undef = .pointer (some ⟨bl, ol + i * 33, none⟩) := (Array.getD_eq_getD_getElem? ..).symm.trans e19
          clear e19
          first | rfl | (go_simp <;> exact IntWalk.i64_in _ (by omega))
        · intro l a' w' K hI hcl hsz hn hd hq hK
          have e20 : a'.eval (.tmp 20) = .pointer (some ⟨bl, ol + i * 33 + 1, none⟩) := (hd 9 20 (by kernel_rfl))
          clear hd hq
          refine op_value (wanted_free _ _ (by rfl)) (v := .agg gc) (w'' := w') ?_ (hK _ _ (hI.set _) (fun _ _ _ h => h) rfl)
          rw [EGC.out]
          simp only [execOp, e20, Instr.loadAt, Instr.sureAddr, Sem.run_bind, Sem.run_pure, Result.andThen_ok, run_loadVar_mid w' bl (ol + i * 33 + 1) 28 (bv g) _ (HRM.out _ hI.below) Try.underlying28 rfl (by rw [bv_length, HGLN.out]; exact info72)]
        · intro l a' w' K hI hcl hsz hn hd hq hK
          have e16 : a'.eval (.tmp 16) = .string sx := (hd 5 16 (by kernel_rfl))
          have e21 : a'.eval (.tmp 21) = .agg gc := (hd 10 21 (by kernel_rfl))
          clear hd hq
          refine op_do (wanted_free _ _ (by rfl)) ?_
          have hbt : Try.prog.built 84 ((#[(0, Operand.tmp 16), (1, Operand.tmp 21)] : Array (Nat × Operand)).map fun (i, x) => (i, a'.eval x)).toList = some lc := by simp only [List.map_toArray, List.map_cons, List.map_nil, e16, e21]; exact HF.out
          refine wp_build 84 _ rfl (by rw [hbt]; rfl) ?_
          rw [hbt]
          exact hK _ _ (hI.set _) (fun _ _ _ h => h) rfl
        · intro l a' w' K hI hcl hsz hn hd hq hK
          have e22 : a'.eval (.tmp 22) = .agg lc := (hd 11 22 (by kernel_rfl))
          clear hd hq
          have h8 : l.getD 13 false = false := hcl 13 12 (by kernel_rfl) hn
          have h9 : l.getD 14 false = false := hcl 14 13 (by kernel_rfl) h8
          have hb7 : Below w'.heap.size w' (w'.alloc (.cells lc 84)) := (Below.refl _ _).alloc (Nat.le_refl _) _
          refine op_buildSlice (wanted_free _ _ (by rfl)) 71 84 1 _ rfl Try.underlying71 lc (by simp only [List.map_toArray, List.map_cons, List.map_nil, e22]; exact HF1.out) ?_
          refine hK _ _ ((hI.grow hb7).set _) (fun j u => by match j with | 12 => exact fun hl _ => absurd hl (by rw [hn]; decide) | 13 => exact fun hl _ => absurd hl (by rw [h8]; decide) | 14 => exact fun hl _ => absurd hl (by rw [h9]; decide) | 0 | 1 | 2 | 3 | 4 | 5 | 6 | 7 | 8 | 9 | 10 | 11 => exact fun _ h => h | _ + 15 => exact fun _ _ => trivial) ⟨w'.heap.size, rfl, by rw [ELC.out]; exact RC_newL w' (lk (x, g)) _, fun e => ?_⟩
          have := ((hI.own h8).lt _ e).2
          omega
        · intro l a' w' K hI hcl hsz hn hd hq hK
          have e11 : a'.eval (.tmp 11) = u3 := (hd 0 11 (by kernel_rfl))
          have e23 := hd 12 23 (by kernel_rfl)
          clear hd hq
          obtain ⟨gN, e23, hrc, hng⟩ := (show ∃ gN, a'.eval (.tmp 23) = .slice (some ⟨gN, 0, none⟩) 1 1 ∧ RC w' (some ⟨gN, 0, none⟩) (lk (x, g)) ∧ u3.ownBlock ≠ some gN from e23)
          refine step_append_any rfl (.tmp 11) (.tmp 23) 71 rfl w.heap.size 84 (.agg (lk ([], hd0)).toArray) 33 48 Try.underlying71 infoLkr (by kernel_rfl) (by omega) (by omega) u3 i (lv (M.take i)) e11 (hI.own hn) (some ⟨gN, 0, none⟩) 1 1 (lk (x, g)) e23 (by rw [HLK.out]) hrc (lk_one _) (by have := HLT.out; have := HN.out; omega) hI.below.size ?_
          intro v9 w9 ho9 hg9 hat9
          have hu9 : Upd (fun k => u3.ownBlock = some k) w' w9 := (Upd.refl _ w').grown hg9 (fun k hk _ => hk)
          have hbase : ∀ k, u3.ownBlock = some k → w.heap.size ≤ k := fun k hk => ((hI.own hn).lt k hk).1
          have hI2 : OutI w 13 u3 i (lv (M.take i)) (l.setIfInBounds 13 true) w9 := ⟨below_upd hI.below hI.below.size hu9 hbase, fun h => by
            exfalso
            rw [Array.getD_eq_getD_getElem?, Array.getElem?_setIfInBounds, if_pos rfl, if_pos (by rw [hsz]; exact of_decide_eq_true (by kernel_rfl))] at h
            simp at h⟩
          have hres : w9.ownsRow w.heap.size 84 33 v9 (i + 1) (lv (M.take (i + 1))) := by rw [HTK.out, lv_snoc]; exact ho9
          have h9 : l.getD 14 false = false := hcl 14 13 (by kernel_rfl) hn
          exact hK _ _ hI2 (fun j u => by match j with | 12 => exact fun _ ⟨gN, h1, h2, h3⟩ => ⟨gN, h1, h2.upd hu9 (fun _ ad e => by cases e; exact h3), h3⟩ | 13 => exact fun hl _ => absurd hl (by rw [hn]; decide) | 14 => exact fun hl _ => absurd hl (by rw [h9]; decide) | 0 | 1 | 2 | 3 | 4 | 5 | 6 | 7 | 8 | 9 | 10 | 11 => exact fun _ h => h | _ + 15 => exact fun _ _ => trivial) hres
        · intro l a' w' K hI hcl hsz hn hd hq hK
          have e24 := hd 13 24 (by kernel_rfl)
          clear hd hq
          refine op_value (wanted_free _ _ (by rfl)) (v := a'.eval (.tmp 24)) (w'' := w') ?_ (hK _ _ (hI.set _) (fun _ _ _ h => h) e24)
          simp only [execOp, Sem.run_pure]
      case fin5 =>
        rintro l w' hsz hall hI _ rfl _ rfl _ rfl _ rfl _ rfl _ rfl _ rfl _ rfl _ rfl _ rfl _ rfl _ rfl _ ⟨gN, rfl, _⟩ _ hst8 v9 hst9
        simp only [Act.put, List.setIfInBounds_toArray, List.set_cons_zero, List.set_cons_succ, FinGoal]
        have HI := Lib.hid hI
        have HS9 := Lib.hid hst9
        clear hI hst9
        go_wp2_with fail
        go_roundg (M.length - (i + 1))
        case measure => have := HK.out; have := HLT.out; omega
        case rel => exact ⟨i + 1, _, HLT.out, rfl, by go_num, rfl, HS9.out, HI.out.below⟩
    · obtain rfl : i = M.length := by omega
      rw [List.take_length] at HO
      go_wp2_with fail
      go_ret
      exact ⟨_, rfl, HO.out, HB.out⟩

end Go.Proofs.Ythlbmjjodjepjaa
