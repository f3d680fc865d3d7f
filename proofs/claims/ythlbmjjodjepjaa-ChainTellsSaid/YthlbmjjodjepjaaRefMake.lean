/-
  The walk of the reference's Make, of the chain (under way).
-/
import Derived.Test.YthlbmjjodjepjaaRefPrefix
import Derived.Test.YthlbmjjodjepjaaOutlineM
import Derived.Test.YthlbmjjodjepjaaChainLinks
set_option linter.unusedVariables false
set_option linter.unusedSimpArgs false
namespace Go.Proofs.Ythlbmjjodjepjaa
open Go.RowKit

section
variable {P : Program}
/-- A slice literal, in a region that draws. -/
theorem op_buildSlice {ops : Array Oper} {o : Oper} {a : Act} {K : Act → World → Prop} {Q : Exit → Act → World → Prop} {E : Prop} {w : World} (hw : Region.wanted o (yielded ops a.tmps) = true)
    (t e : TypeId) (len : Nat) (parts : Array (Nat × Operand)) (ho : o.op = .buildSlice t len parts) (hu : P.underlying t = some (.slice e)) (cells : Array Value)
    (hf : P.builtSlice e len (parts.map fun (i, x) => (i, a.eval x)).toList = some cells)
    (h : K (a.put o.dst (.slice (some ⟨w.heap.size, 0, none⟩) len len)) (w.alloc (.cells cells e))) : if Region.wanted o (yielded ops a.tmps) = true then o.wp P a w K Q else E := by
  rw [if_pos hw]
  unfold Program.builtSlice at hf
  cases hie : P.info? e with
  | none => rw [hie] at hf; cases hf
  | some ie =>
    rw [hie] at hf
    simp only at hf
    cases hz : ie.zero with
    | none => rw [hz] at hf; cases hf
    | some z =>
      rw [hz] at hf
      simp only at hf
      split at hf
      · cases hf
      · rename_i hc
        exact wp_buildSlice t e len parts ho cells ie z hu hie hz (fun h => hc (.inl h)) (fun h => hc (.inr h)) hf h
end

/-- What stands while operation k, the store into the block g, has not been done: nothing else is turned. -/
structure HeadU (w5 : World) (g k : Nat) (hd : List UInt8) (l : Array Bool) (W : World) : Prop where
  upd : Upd (fun q => q = g) w5 W
  lt : g < W.heap.size
  head : l.getD k false = false → Arr W g 28 (bv hd)
theorem unset {l : Array Bool} {k i : Nat} (hl : (l.setIfInBounds i true).getD k false = false) : l.getD k false = false := by
  rw [Array.getD_eq_getD_getElem?, Array.getElem?_setIfInBounds] at hl
  rw [Array.getD_eq_getD_getElem?]
  by_cases hi : i = k
  · subst hi
    by_cases hs : i < l.size
    · simp [hs] at hl
    · simp [hs]
  · simpa [hi] using hl
theorem HeadU.set {w5 : World} {g k : Nat} {hd : List UInt8} {l : Array Bool} {W : World} (h : HeadU w5 g k hd l W) (i : Nat) : HeadU w5 g k hd (l.setIfInBounds i true) W := ⟨h.upd, h.lt, fun hl => h.head (unset hl)⟩
/-- What stands while operation k, the append to vo, has not been done. -/
structure MkI (w : World) (g k : Nat) (h2 : List UInt8) (vo : Value) (i : Nat) (xs : List Value) (l : Array Bool) (W : World) : Prop where
  below : Below g w W
  arr : Arr W g 28 (bv h2)
  own : l.getD k false = false → W.ownsRow (g + 1) 84 33 vo i xs
theorem MkI.set {w : World} {g k : Nat} {h2 : List UInt8} {vo : Value} {i : Nat} {xs : List Value} {l : Array Bool} {W : World} (h : MkI w g k h2 vo i xs l W) (j : Nat) : MkI w g k h2 vo i xs (l.setIfInBounds j true) W := ⟨h.below, h.arr, fun hl => h.own (unset hl)⟩
theorem MkI.grow {w : World} {g k : Nat} {h2 : List UInt8} {vo : Value} {i : Nat} {xs : List Value} {l : Array Bool} {W W' : World} (h : MkI w g k h2 vo i xs l W) (hb : Below W.heap.size W W') : MkI w g k h2 vo i xs l W' :=
  ⟨below_below h.below (Nat.le_of_lt h.arr.lt) hb, h.arr.below hb h.arr.lt, fun hl => own_below (h.own hl) hb⟩

set_option maxRecDepth 100000 in
set_option maxHeartbeats 8000000 in
theorem refMake_any (A : Option Addr) (n c : Nat) (L : List (List UInt8)) (w : World) (hl : L.length = n) (hn : n ≤ 100000) (hs : ∀ x ∈ L, x.length ≤ 1000000) (hr : RS w A L) :
    Calls Try.prog 44 #[.slice A n c] w fun e w' => ∃ v, e = .returned v ∧ w'.ownsRow w.heap.size 84 33 v L.length (lv (mkOf L)) ∧ Below w.heap.size w w' := by
  subst hl
  have HL := Lib.hid hr
  have HSM := Lib.hid hs
  have HN := Lib.hid hn
  clear hr hs
  go_enter Try.func44, Try.ntmps44
  obtain ⟨z32, hz32⟩ : ∃ z32, z32 = (bv (List.replicate 32 0)).toArray := ⟨_, rfl⟩
  go_upto_region 2 with fail
  refine wp_region_lit ?_
  refine Great.wpList_allocTo rfl _ rfl (.pointer (some ⟨w.heap.size, 0, none⟩)) (.cells z32 28) ?x1 ?_
  case x1 => rw [hz32]; kernel_rfl
  refine wpList_nil ?_
  rename_i hK
  refine hK _ _ ?_
  clear hK
  obtain ⟨w1, hw1⟩ : ∃ w1, w1 = w.alloc (.cells z32 28) := ⟨_, rfl⟩
  rw [← hw1]
  have HA1 := Lib.hid (show Arr w1 w.heap.size 28 (bv (headOf [])) by rw [hw1, hz32]; exact Arr.new _ _ _)
  have HB1 := Lib.hid (show Below w.heap.size w w1 by rw [hw1]; exact (Below.refl _ _).alloc (Nat.le_refl _) _)
  have HS1 := Lib.hid (show w1.heap.size = w.heap.size + 1 by rw [hw1]; simp)
  clear hw1 hz32
  go_wp2_with fail
  go_loopg [3, 5] L.length (fun k s3 s5 wr => ∃ (i : Nat) (vo : Value), i ≤ L.length ∧ k = L.length - i ∧ s5 = .int .i64 (i : Int) ∧ s3 = vo ∧ wr.ownsRow (w.heap.size + 1) 84 33 vo i (lv (mkOf (L.take i))) ∧ Arr wr w.heap.size 28 (bv (headOf (L.take i))) ∧ Below w.heap.size w wr)
  case atStart => exact ⟨0, _, Nat.zero_le _, by omega, rfl, rfl, World.ownsRow_nil _ _ _ _, HA1.out, HB1.out⟩
  case round =>
    obtain ⟨i, _, hi, hk, rfl, rfl, ho, ha, hb⟩ := hrel
    have HK := Lib.hid hk
    have HO := Lib.hid ho
    have HA := Lib.hid ha
    have HB := Lib.hid hb
    clear hk ho ha hb HA1 HB1
    by_cases hlt : i < L.length
    · obtain ⟨bl, ol, rfl, e1⟩ := HL.out.parts (by rw [sv_length]; omega)
      have k1 := e1 i _ (sv_get' L i hlt)
      have hxs : (L[i]).length ≤ 1000000 := HSM.out _ (List.getElem_mem hlt)
      have HT := Lib.hid (show L.take (i + 1) = L.take i ++ [L[i]] from List.take_succ_eq_append_getElem hlt)
      have HTI := Lib.hid (show i = (L.take i).length by rw [List.length_take]; omega)
      have K1 := Lib.hid k1
      generalize L[i] = x at *
      generalize L.take i = T at *
      have HXS := Lib.hid (show (strB x).size ≤ 1000000 by rw [strB_size]; exact hxs)
      clear e1 hxs
      obtain ⟨hd, ehd⟩ : ∃ hd, hd = headOf T := ⟨_, rfl⟩
      have hhl : hd.length = 32 := by rw [ehd]; exact headOf_length T
      rw [← ehd] at HA
      obtain ⟨hc, ehc⟩ : ∃ hc, hc = (bv hd).toArray := ⟨_, rfl⟩
      have hcs : hc.size = 32 := by rw [ehc, List.size_toArray, bv_length, hhl]
      have hcz : (Try.prog.info? 28).map (·.size) = some hc.size := by rw [hcs]; exact info72
      have HAc := Lib.hid (show wr.heap[w.heap.size]? = some (.cells hc 28) by rw [ehc]; exact HA.out)
      have EHD := Lib.hid ehd
      have HHL := Lib.hid hhl
      have EHC := Lib.hid ehc
      have HCS := Lib.hid hcs
      have HCZ := Lib.hid hcz
      clear ehd hhl ehc hcs hcz
      obtain ⟨h2, eh2⟩ : ∃ h2, h2 = nextOf hd x := ⟨_, rfl⟩
      have hhl2 : h2.length = 32 := by rw [eh2]; exact nextOf_length _ _
      obtain ⟨hc2, ehc2⟩ : ∃ hc2, hc2 = (bv h2).toArray := ⟨_, rfl⟩
      have hcs2 : hc2.size = 32 := by rw [ehc2, List.size_toArray, bv_length, hhl2]
      have HCZ2 := Lib.hid (show (Try.prog.info? 28).map (·.size) = some hc2.size by rw [hcs2]; exact info72)
      have HONE2 := Lib.hid (show hc2.all (·.oneCell') = true by rw [ehc2]; exact all_oneCell_toArray (bv_one _))
      have HCS2 := Lib.hid hcs2
      have EH2 := Lib.hid eh2
      have HHL2 := Lib.hid hhl2
      have EHC2 := Lib.hid ehc2
      have HXB := Lib.hid (strB_toList x)
      obtain ⟨sx, esx⟩ : ∃ sx, sx = strB x := ⟨_, rfl⟩
      have ESX := Lib.hid esx
      rw [← esx] at HXS HXB k1
      have HST := Lib.hid (show ∀ W, Upd (fun q => q = w.heap.size) wr W → W.cell? ⟨bl, ol + i, none⟩ = some (.string sx) from fun W h => cell_below (below_upd HB.out HB.out.size h (fun k hk => by rw [hk]; exact Nat.le_refl _)) k1)
      have HGL := Lib.hid (Arr.lt HA.out)
      have hi0 : (0 : Int) ≤ (i : Int) := by omega
      have hi1 : (i : Int) < (L.length : Int) := by omega
      have hiN : (i : Int) ≤ 100000 := by have := HN.out; omega
      have HLT := Lib.hid hlt
      clear eh2 hhl2 ehc2 hcs2 esx hlt hi k1
      have HTL := Lib.hid (show T.length ≤ 100000 by have := HTI.out; omega)
      have HMS := Lib.hid (show mkOf (T ++ [x]) = mkOf T ++ [(x, h2)] by rw [mkOf_snoc, EH2.out, EHD.out])
      have hlkl := lk_length (x, h2) HHL2.out
      obtain ⟨lc, elc⟩ : ∃ lc, lc = (lk (x, h2)).toArray := ⟨_, rfl⟩
      have HF := Lib.hid (show Try.prog.built 84 [(0, .string sx), (1, .agg hc2)] = some lc by rw [elc, EHC2.out, ESX.out]; exact built_link2 x h2 HHL2.out)
      have HF1 := Lib.hid (show Try.prog.builtSlice 84 1 [(0, .agg lc)] = some lc by rw [elc]; exact built_one2 x h2 HHL2.out)
      have ELC := Lib.hid elc
      have HLK := Lib.hid hlkl
      clear hlkl elc
      go_upto_region 6 with fail
      go_cut [17] (fun s17 wx => Arr wx w.heap.size 28 (bv h2) ∧ Upd (fun q => q = w.heap.size) wr wx)
      case first =>
        refine region_byL (HeadU wr w.heap.size 6 hd) [fun v _ => v = .agg hc, (fun v _ => v = .slice (some ⟨bl, ol, none⟩) L.length c), (fun v _ => v = .int .i64 (i : Int)), (fun v _ => v = .pointer (some ⟨bl, ol + i, none⟩)), (fun v _ => v = .string sx), fun v _ => v = .agg hc2, fun _ w' => Arr w' w.heap.size 28 (bv h2)] (by kernel_rfl) (by kernel_rfl) (by kernel_rfl) rfl (⟨(Upd.refl _ _).drew, HGL.out, fun _ => HA.out.drew⟩) ?ok6 ?fin6
        case ok6 =>
          refine ⟨?_, ?_, ?_, ?_, ?_, ?_, ?_, trivial⟩
          · intro l a' w' K hI hcl hsz hn hd hq hK
            have e4 : a'.eval (.tmp 4) = .pointer (some ⟨w.heap.size, 0, none⟩) := (hq 4 (by kernel_rfl)).trans rfl
            clear hd hq
            have h6 : l.getD 6 false = false := hcl 6 0 (by kernel_rfl) hn
            have hrow : w'.heap[w.heap.size]? = some (.cells hc 28) := by rw [EHC.out]; exact hI.head h6
            refine op_value (wanted_free _ _ (by rfl)) (v := .agg hc) (w'' := w') ?_ (hK _ _ (hI.set _) (fun _ _ h => h) rfl)
            simp only [execOp, e4, Instr.loadAt, Instr.sureAddr, Sem.run_bind, Sem.run_pure, Result.andThen_ok, run_loadVar_row w' w.heap.size 28 28 hc (0, 0) _ hrow Try.underlying28 rfl HCZ.out]
          · intro l a' w' K hI hcl hsz hn hd hq hK
            have e0 : a'.eval (.tmp 0) = .slice (some ⟨bl, ol, none⟩) L.length c := (hq 0 (by kernel_rfl)).trans rfl
            clear hd hq hcl hsz hn
            refine op_value (wanted_free _ _ (by rfl)) (v := .slice (some ⟨bl, ol, none⟩) L.length c) (w'' := w') ?_ (hK _ _ (hI.set _) (fun _ _ h => h) rfl)
            clear hK
            simp only [execOp, e0]
            have f0 : a'.tmps[0]?.getD undef = .slice (some ⟨bl, ol, none⟩) L.length c := (Array.getD_eq_getD_getElem? ..).symm.trans e0
            clear e0
            first | rfl | (go_simp <;> exact IntWalk.i64_in _ (by omega))
          · intro l a' w' K hI hcl hsz hn hd hq hK
            have e5 : a'.eval (.tmp 5) = .int .i64 (i : Int) := (hq 5 (by kernel_rfl)).trans rfl
            clear hd hq hcl hsz hn
            refine op_value (wanted_free _ _ (by rfl)) (v := .int .i64 (i : Int)) (w'' := w') ?_ (hK _ _ (hI.set _) (fun _ _ h => h) rfl)
            clear hK
            simp only [execOp, e5]
            have f5 : a'.tmps[5]?.getD undef = .int .i64 (i : Int) := (Array.getD_eq_getD_getElem? ..).symm.trans e5
            clear e5
            first | rfl | (go_simp <;> exact IntWalk.i64_in _ (by omega))
          · intro l a' w' K hI hcl hsz hn hd hq hK
            have e13 : a'.eval (.tmp 13) = .slice (some ⟨bl, ol, none⟩) L.length c := (hd 1 13 (by kernel_rfl))
            have e14 : a'.eval (.tmp 14) = .int .i64 (i : Int) := (hd 2 14 (by kernel_rfl))
            clear hd hq hcl hsz hn
            refine op_value (wanted_free _ _ (by rfl)) (v := .pointer (some ⟨bl, ol + i, none⟩)) (w'' := w') ?_ (hK _ _ (hI.set _) (fun _ _ h => h) rfl)
            clear hK
            simp only [execOp, e13, e14]
            have f13 : a'.tmps[13]?.getD undef = .slice (some ⟨bl, ol, none⟩) L.length c := (Array.getD_eq_getD_getElem? ..).symm.trans e13
            have f14 : a'.tmps[14]?.getD undef = .int .i64 (i : Int) := (Array.getD_eq_getD_getElem? ..).symm.trans e14
            clear e13 e14
            first | rfl | (go_simp <;> exact IntWalk.i64_in _ (by omega))
          · intro l a' w' K hI hcl hsz hn hd hq hK
            have e15 : a'.eval (.tmp 15) = .pointer (some ⟨bl, ol + i, none⟩) := (hd 3 15 (by kernel_rfl))
            clear hd hq hcl hsz hn
            have hst := HST.out w' hI.upd
            refine op_value (wanted_free _ _ (by rfl)) (v := .string sx) (w'' := w') ?_ (hK _ _ (hI.set _) (fun _ _ h => h) rfl)
            clear hK
            simp only [execOp, e15]
            have f15 : a'.tmps[15]?.getD undef = .pointer (some ⟨bl, ol + i, none⟩) := (Array.getD_eq_getD_getElem? ..).symm.trans e15
            clear e15
            first | rfl | (go_simp <;> exact IntWalk.i64_in _ (by omega))
          · intro l a' w' K hI hcl hsz hn hd hq hK
            have e12 : a'.eval (.tmp 12) = .agg hc := (hd 0 12 (by kernel_rfl))
            have e16 : a'.eval (.tmp 16) = .string sx := (hd 4 16 (by kernel_rfl))
            clear hd hq
            have h6 : l.getD 6 false = false := hcl 6 5 (by kernel_rfl) hn
            refine op_call #[.agg hc, .string sx] (wanted_free _ _ (by rfl)) rfl Try.func53 (by kernel_rfl) rfl (by simp [e12, e16]) ?_
            rw [EHC.out]
            refine (refNext_any hd sx w' HHL.out HXS.out).mono ?_
            rw [HXB.out, ← EH2.out, ← EHC2.out]
            rintro e w6 ⟨rfl, hb⟩
            have hI2 : HeadU wr w.heap.size 6 hd l w6 := ⟨hI.upd.below hb, Nat.lt_of_lt_of_le hI.lt hb.size, fun h => (hI.head h).below hb hI.lt⟩
            refine ⟨_, rfl, hK _ _ (hI2.set _) (fun j u => by match j with | 6 => exact fun h => Arr.below h hb hI.lt | 0 | 1 | 2 | 3 | 4 | 5 => exact fun h => h | _ + 7 => exact fun _ => trivial) rfl⟩
          · intro l a' w' K hI hcl hsz hn hd hq hK
            have e4 : a'.eval (.tmp 4) = .pointer (some ⟨w.heap.size, 0, none⟩) := (hq 4 (by kernel_rfl)).trans rfl
            have e17 : a'.eval (.tmp 17) = .agg hc2 := (hd 5 17 (by kernel_rfl))
            clear hd hq
            have hrow : w'.heap[w.heap.size]? = some (.cells hc 28) := by rw [EHC.out]; exact hI.head hn
            have hnew : Arr (w'.setRow w.heap.size hc2) w.heap.size 28 (bv h2) := by
              have h := setRow_heap w' w.heap.size _ hc2 _ _ hrow
              rw [EHC2.out] at h ⊢
              exact h
            have hI2 : HeadU wr w.heap.size 6 hd (l.setIfInBounds 6 true) (w'.setRow w.heap.size hc2) := ⟨upd_setRow hI.upd w.heap.size hc2 (fun _ => rfl), hnew.lt, fun h => by
              exfalso
              rw [Array.getD_eq_getD_getElem?, Array.getElem?_setIfInBounds, if_pos rfl, if_pos (by rw [hsz]; exact of_decide_eq_true (by kernel_rfl))] at h
              simp at h⟩
            refine op_do (wanted_free _ _ (by rfl)) ?_
            refine wp_store_row 28 _ _ rfl w.heap.size hc2 e4 e17 28 hc hrow HCZ2.out (by rw [HCS.out, HCS2.out]) HONE2.out ?_
            exact hK undef _ hI2 (fun j u => by match j with | 6 => exact fun _ => hnew | 0 | 1 | 2 | 3 | 4 | 5 => exact fun h => h | _ + 7 => exact fun _ => trivial) hnew
        case fin6 =>
          rintro l w' hsz hall hI _ rfl _ rfl _ rfl _ rfl _ rfl _ rfl _ hst6
          simp only [Act.put, List.setIfInBounds_toArray, List.set_cons_zero, List.set_cons_succ, FinGoal]
          go_wp2_with fail
          go_meet
          exact ⟨hst6, hI.upd⟩
      case rest =>
        obtain ⟨hA6, hU6⟩ := hcut
        have HA6 := Lib.hid hA6
        have HB6 := Lib.hid (below_upd HB.out HB.out.size hU6 (fun k hk => by rw [hk]; exact Nat.le_refl _))
        have HO6 := Lib.hid (show wc.ownsRow (w.heap.size + 1) 84 33 u3 T.length (lv (mkOf T)) by have h := own_upd HO.out hU6 (fun k hk e => by have := (World.ownsRow.lt HO.out k hk).1; omega); rwa [HTI.out] at h)
        have HST7 := Lib.hid (show ∀ W, Below w.heap.size w W → W.cell? ⟨bl, ol + i, none⟩ = some (.string sx) from fun W h => cell_below h (by rw [ESX.out]; exact K1.out))
        clear hA6 hU6
        go_upto_region 7 with fail
        refine region_byM (MkI w w.heap.size 8 h2 u3 T.length (lv (mkOf T))) [fun v _ => v = u3, (fun v _ => v = .slice (some ⟨bl, ol, none⟩) L.length c), (fun v _ => v = .int .i64 (i : Int)), (fun v _ => v = .pointer (some ⟨bl, ol + i, none⟩)), (fun v _ => v = .string sx), fun v _ => v = .agg hc2, fun v _ => v = .agg lc, fun v w' => ∃ gN, v = .slice (some ⟨gN, 0, none⟩) 1 1 ∧ RC w' (some ⟨gN, 0, none⟩) (lk (x, h2)) ∧ u3.ownBlock ≠ some gN ∧ w.heap.size + 1 ≤ w'.heap.size, fun v w' => w'.ownsRow (w.heap.size + 1) 84 33 v (T.length + 1) (lv (mkOf (T ++ [x]))), fun v w' => w'.ownsRow (w.heap.size + 1) 84 33 v (T.length + 1) (lv (mkOf (T ++ [x])))] (by kernel_rfl) (by kernel_rfl) (by kernel_rfl) rfl (⟨HB6.out.drew, HA6.out.drew, fun _ => HO6.out.drew⟩) ?ok7 ?fin7
        case ok7 =>
          refine ⟨?_, ?_, ?_, ?_, ?_, ?_, ?_, ?_, ?_, ?_, trivial⟩
          · intro l a' w' K hI hcl hsz hn hd hq hK
            have e3 : a'.eval (.tmp 3) = u3 := (hq 3 (by kernel_rfl)).trans rfl
            clear hd hq
            refine op_value (wanted_free _ _ (by rfl)) (v := u3) (w'' := w') ?_ (hK _ _ (hI.set _) (fun _ _ _ h => h) rfl)
            simp only [execOp, e3, Sem.run_pure]
          · intro l a' w' K hI hcl hsz hn hd hq hK
            have e0 : a'.eval (.tmp 0) = .slice (some ⟨bl, ol, none⟩) L.length c := (hq 0 (by kernel_rfl)).trans rfl
            clear hd hq hcl hsz hn
            refine op_value (wanted_free _ _ (by rfl)) (v := .slice (some ⟨bl, ol, none⟩) L.length c) (w'' := w') ?_ (hK _ _ (hI.set _) (fun _ _ _ h => h) rfl)
            clear hK
            simp only [execOp, e0]
            have f0 : a'.tmps[0]?.getD undef = .slice (some ⟨bl, ol, none⟩) L.length c := (Array.getD_eq_getD_getElem? ..).symm.trans e0
            clear e0
            first | rfl | (go_simp <;> exact IntWalk.i64_in _ (by omega))
          · intro l a' w' K hI hcl hsz hn hd hq hK
            have e5 : a'.eval (.tmp 5) = .int .i64 (i : Int) := (hq 5 (by kernel_rfl)).trans rfl
            clear hd hq hcl hsz hn
            refine op_value (wanted_free _ _ (by rfl)) (v := .int .i64 (i : Int)) (w'' := w') ?_ (hK _ _ (hI.set _) (fun _ _ _ h => h) rfl)
            clear hK
            simp only [execOp, e5]
            have f5 : a'.tmps[5]?.getD undef = .int .i64 (i : Int) := (Array.getD_eq_getD_getElem? ..).symm.trans e5
            clear e5
            first | rfl | (go_simp <;> exact IntWalk.i64_in _ (by omega))
          · intro l a' w' K hI hcl hsz hn hd hq hK
            have e19 : a'.eval (.tmp 19) = .slice (some ⟨bl, ol, none⟩) L.length c := (hd 1 19 (by kernel_rfl))
            have e20 : a'.eval (.tmp 20) = .int .i64 (i : Int) := (hd 2 20 (by kernel_rfl))
            clear hd hq hcl hsz hn
            refine op_value (wanted_free _ _ (by rfl)) (v := .pointer (some ⟨bl, ol + i, none⟩)) (w'' := w') ?_ (hK _ _ (hI.set _) (fun _ _ _ h => h) rfl)
            clear hK
            simp only [execOp, e19, e20]
            have f19 : a'.tmps[19]?.getD undef = .slice (some ⟨bl, ol, none⟩) L.length c := (Array.getD_eq_getD_getElem? ..).symm.trans e19
            have f20 : a'.tmps[20]?.getD undef = .int .i64 (i : Int) := (Array.getD_eq_getD_getElem? ..).symm.trans e20
            clear e19 e20
            first | rfl | (go_simp <;> exact IntWalk.i64_in _ (by omega))
          · intro l a' w' K hI hcl hsz hn hd hq hK
            have e21 : a'.eval (.tmp 21) = .pointer (some ⟨bl, ol + i, none⟩) := (hd 3 21 (by kernel_rfl))
            clear hd hq hcl hsz hn
            have hst := HST7.out w' hI.below
            refine op_value (wanted_free _ _ (by rfl)) (v := .string sx) (w'' := w') ?_ (hK _ _ (hI.set _) (fun _ _ _ h => h) rfl)
            clear hK
            simp only [execOp, e21]
            have f21 : a'.tmps[21]?.getD undef = .pointer (some ⟨bl, ol + i, none⟩) := (Array.getD_eq_getD_getElem? ..).symm.trans e21
            clear e21
            first | rfl | (go_simp <;> exact IntWalk.i64_in _ (by omega))
          · intro l a' w' K hI hcl hsz hn hd hq hK
            have e4 : a'.eval (.tmp 4) = .pointer (some ⟨w.heap.size, 0, none⟩) := (hq 4 (by kernel_rfl)).trans rfl
            clear hd hq
            have hrow : w'.heap[w.heap.size]? = some (.cells hc2 28) := by rw [EHC2.out]; exact hI.arr
            refine op_value (wanted_free _ _ (by rfl)) (v := .agg hc2) (w'' := w') ?_ (hK _ _ (hI.set _) (fun _ _ _ h => h) rfl)
            simp only [execOp, e4, Instr.loadAt, Instr.sureAddr, Sem.run_bind, Sem.run_pure, Result.andThen_ok, run_loadVar_row w' w.heap.size 28 28 hc2 (0, 0) _ hrow Try.underlying28 rfl HCZ2.out]
          · intro l a' w' K hI hcl hsz hn hd hq hK
            have e22 : a'.eval (.tmp 22) = .string sx := (hd 4 22 (by kernel_rfl))
            have e23 : a'.eval (.tmp 23) = .agg hc2 := (hd 5 23 (by kernel_rfl))
            clear hd hq
            refine op_do (wanted_free _ _ (by rfl)) ?_
            have hbt : Try.prog.built 84 ((#[(0, Operand.tmp 22), (1, Operand.tmp 23)] : Array (Nat × Operand)).map fun (i, x) => (i, a'.eval x)).toList = some lc := by simp only [List.map_toArray, List.map_cons, List.map_nil, e22, e23]; exact HF.out
            refine wp_build 84 _ rfl (by rw [hbt]; rfl) ?_
            rw [hbt]
            exact hK _ _ (hI.set _) (fun _ _ _ h => h) rfl
          · intro l a' w' K hI hcl hsz hn hd hq hK
            have e24 : a'.eval (.tmp 24) = .agg lc := (hd 6 24 (by kernel_rfl))
            clear hd hq
            have h8 : l.getD 8 false = false := hcl 8 7 (by kernel_rfl) hn
            have hb7 : Below w'.heap.size w' (w'.alloc (.cells lc 84)) := (Below.refl _ _).alloc (Nat.le_refl _) _
            have hlt := hI.arr.lt
            have h9 : l.getD 9 false = false := hcl 9 8 (by kernel_rfl) h8
            refine op_buildSlice (wanted_free _ _ (by rfl)) 71 84 1 _ rfl Try.underlying71 lc (by simp only [List.map_toArray, List.map_cons, List.map_nil, e24]; exact HF1.out) ?_
            refine hK _ _ ((hI.grow hb7).set _) (fun j u => by match j with | 7 => exact fun hl _ => absurd hl (by rw [hn]; decide) | 8 => exact fun hl _ => absurd hl (by rw [h8]; decide) | 9 => exact fun hl _ => absurd hl (by rw [h9]; decide) | 0 | 1 | 2 | 3 | 4 | 5 | 6 => exact fun _ h => h | _ + 10 => exact fun _ _ => trivial) ⟨w'.heap.size, rfl, by rw [ELC.out]; exact RC_newL w' (lk (x, h2)) _, fun e => ?_, by simp; omega⟩
            have := ((hI.own h8).lt _ e).2
            omega
          · intro l a' w' K hI hcl hsz hn hd hq hK
            have e18 : a'.eval (.tmp 18) = u3 := (hd 0 18 (by kernel_rfl))
            have e25 := hd 7 25 (by kernel_rfl)
            clear hd hq
            obtain ⟨gN, e25, hrc, hng, hsz1⟩ := (show ∃ gN, a'.eval (.tmp 25) = .slice (some ⟨gN, 0, none⟩) 1 1 ∧ RC w' (some ⟨gN, 0, none⟩) (lk (x, h2)) ∧ u3.ownBlock ≠ some gN ∧ w.heap.size + 1 ≤ w'.heap.size from e25)
            refine step_append_any rfl (.tmp 18) (.tmp 25) 71 rfl (w.heap.size + 1) 84 (.agg (lk ([], hd0)).toArray) 33 48 Try.underlying71 infoLkr (by kernel_rfl) (by omega) (by omega) u3 T.length (lv (mkOf T)) e18 (hI.own hn) (some ⟨gN, 0, none⟩) 1 1 (lk (x, h2)) e25 (by rw [HLK.out]) hrc (lk_one _) (by have := HTL.out; omega) hsz1 ?_
            intro v9 w9 ho9 hg9 hat9
            have hu9 : Upd (fun k => u3.ownBlock = some k) w' w9 := (Upd.refl _ w').grown hg9 (fun k hk _ => hk)
            have hbase : ∀ k, u3.ownBlock = some k → w.heap.size + 1 ≤ k := fun k hk => ((hI.own hn).lt k hk).1
            have hI2 : MkI w w.heap.size 8 h2 u3 T.length (lv (mkOf T)) (l.setIfInBounds 8 true) w9 := ⟨below_upd hI.below (by omega) hu9 (fun k hk => by have := hbase k hk; omega), hI.arr.upd hu9 (fun e => by have := hbase _ e; omega), fun h => by
              exfalso
              rw [Array.getD_eq_getD_getElem?, Array.getElem?_setIfInBounds, if_pos rfl, if_pos (by rw [hsz]; exact of_decide_eq_true (by kernel_rfl))] at h
              simp at h⟩
            have hres : w9.ownsRow (w.heap.size + 1) 84 33 v9 (T.length + 1) (lv (mkOf (T ++ [x]))) := by rw [HMS.out, lv_snoc]; exact ho9
            have h9 : l.getD 9 false = false := hcl 9 8 (by kernel_rfl) hn
            exact hK _ _ hI2 (fun j u => by match j with | 7 => exact fun _ ⟨gN, h1, h2, h3, h4⟩ => ⟨gN, h1, h2.upd hu9 (fun _ ad e => by cases e; exact h3), h3, Nat.le_trans h4 hu9.size⟩ | 8 => exact fun hl _ => absurd hl (by rw [hn]; decide) | 9 => exact fun hl _ => absurd hl (by rw [h9]; decide) | 0 | 1 | 2 | 3 | 4 | 5 | 6 => exact fun _ h => h | _ + 10 => exact fun _ _ => trivial) hres
          · intro l a' w' K hI hcl hsz hn hd hq hK
            have e26 := hd 8 26 (by kernel_rfl)
            clear hd hq
            refine op_value (wanted_free _ _ (by rfl)) (v := a'.eval (.tmp 26)) (w'' := w') ?_ (hK _ _ (hI.set _) (fun _ _ _ h => h) e26)
            simp only [execOp, Sem.run_pure]
        case fin7 =>
          rintro l w' hsz hall hI _ rfl _ rfl _ rfl _ rfl _ rfl _ rfl _ rfl _ ⟨gN, rfl, _⟩ _ hst8 v9 hst9
          simp only [Act.put, List.setIfInBounds_toArray, List.set_cons_zero, List.set_cons_succ, FinGoal]
          have HI := Lib.hid hI
          have HS9 := Lib.hid hst9
          clear hI hst9
          go_wp2_with fail
          go_roundg (L.length - (i + 1))
          case measure => have := HK.out; have := HLT.out; omega
          case rel => exact ⟨i + 1, _, HLT.out, rfl, by go_num, rfl, by rw [HT.out, HTI.out]; exact HS9.out, by rw [HT.out, headOf_snoc, ← EHD.out, ← EH2.out]; exact HI.out.arr, HI.out.below⟩
    · obtain rfl : i = L.length := by omega
      rw [List.take_length] at HO HA
      go_wp2_with fail
      go_ret
      exact ⟨_, rfl, own_lower HO.out (by omega), HB.out⟩

end Go.Proofs.Ythlbmjjodjepjaa
