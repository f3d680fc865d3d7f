/-
  The texts RefDec, RefOut of this proof in one (what is used of them): what each proves is said at its head. No conditions beyond those that each theorem says.
-/
import Derived.Laws.CopyRow
import Derived.Laws.IdiomCopy
import Derived.Laws.CopyOwn
import Derived.Test.YtjakhemolecbnaaND4
import Derived.Test.YtjakhemolecbnaaNI
import Derived.Test.YtjakhemolecbnaaNG4
import Derived.Test.YtjakhemolecbnaaNI2

/-
  The walk of the reference's Decode of a chain, on any bytes.
-/
section
set_option linter.unusedVariables false
set_option linter.unusedSimpArgs false
namespace Go.Proofs.Ytjakhemolecbnaa
open Go.RowKit

section
variable {P : Program}
/-- 'copy(d, s)' into a block, as one step of a region that draws: the block as it is then, and nothing else turned. -/
theorem step_copy_blk {ops : Array Oper} {o : Oper} {a : Act} {w : World} {K : Act → World → Prop} {Q : Exit → Act → World → Prop} {E : Prop} (hw : Region.wanted o (yielded ops a.tmps) = true) (d s : Operand) (dT sT : TypeId)
    (ho : o.op = .call { callee := .builtin .copy, args := #[d, s], argTypes := #[dT, sT] }) (elem : TypeId) (hu : P.underlying dT = some (.slice elem)) (hsz : (P.info? elem).map (·.size) = some 1)
    (A : Option Addr) (g off dLen dCap m sCap : Nat) (hd : a.eval d = .slice (some ⟨g, off, none⟩) dLen dCap) (cs : List Value) (hs : a.eval s = .slice A m sCap) (hm : cs.length = m) (hr : RC w A cs) (hle : m ≤ dLen)
    (cur : List Value) (t : TypeId) (hg : w.heap[g]? = some (.cells cur.toArray t (0, 0))) (hfit : off + m ≤ cur.length) (h1 : ∀ v ∈ cs, v.oneCell' = true)
    (h : ∀ w', w'.heap[g]? = some (.cells (cur.take off ++ cs ++ cur.drop (off + m)).toArray t (0, 0)) → Upd (fun k => k = g) w w' → K (a.put o.dst (goInt m)) w') :
    if Region.wanted o (yielded ops a.tmps) = true then Oper.wp P o a w K Q else E := by
  rw [if_pos hw]
  subst hm
  have hmin : cs.length = Nat.min cs.length dLen := (Nat.min_eq_left hle).symm
  by_cases h0 : cs.length = 0
  · obtain rfl : cs = [] := List.eq_nil_of_length_eq_zero h0
    have hrun := run_copy_none (P := P) w dT sT o.type elem (some ⟨g, off, none⟩) A dLen dCap 0 sCap hu hsz (by simp)
    unfold Oper.wp
    simp only [List.length_nil] at hs ⊢
    simp [execOp, ho, resolve, invoke, builtin, hd, hs, hrun, Result.andThen]
    exact h w (by simpa using hg) (Upd.refl _ _)
  · obtain ⟨ad, rfl, hsrc⟩ := hr (by omega)
    have hrun := run_copy_row (P := P) w dT sT o.type elem g off dLen dCap ad cs.length sCap cur.toArray t cs hu hsz hg hmin hsrc (by simpa using hfit) h1
    unfold Oper.wp
    simp [execOp, ho, resolve, invoke, builtin, hd, hs, hrun, Result.andThen]
    refine h _ ?_ (upd_setRow (Upd.refl (fun k => k = g) w) g _ (fun _ => rfl))
    have := setRow_heap w g _ (cur.take off ++ (cs ++ cur.drop (off + cs.length))).toArray t _ hg
    simpa using this
end

theorem raw32 (l : List UInt8) (s : Rs) : (rawS l 32 s).1 = [] ∨ (rawS l 32 s).1.length = 32 := by
  unfold rawS
  split
  · exact .inl rfl
  · split
    · exact .inl rfl
    · refine .inr ?_
      show (List.take 32 (List.drop s.a l)).length = 32
      rw [List.length_take, List.length_drop]
      omega
theorem pad_splice (t x : List UInt8) (h : x = [] ∨ x.length = 32) : (lk (t, hd0)).take 1 ++ bv x ++ (lk (t, hd0)).drop (1 + x.length) = lk (t, pad32 x) := by
  rcases h with rfl | h
  · show [Value.string (strB t)] ++ [] ++ bv hd0 = lk (t, hd0)
    rfl
  · have e : pad32 x = x := by unfold pad32; rw [if_pos h]
    rw [e, h]
    have e2 : (lk (t, hd0)).drop (1 + 32) = [] := List.drop_of_length_le (by rw [lk_length (t, hd0) (by simp [hd0])]; omega)
    rw [e2, List.append_nil]
    rfl
theorem pad32_length (x : List UInt8) : (pad32 x).length = 32 := by
  unfold pad32
  split
  · assumption
  · simp

theorem info8c : (Try.prog.info? 5).map (·.size) = some 1 := by kernel_rfl

set_option maxRecDepth 100000 in
set_option maxHeartbeats 16000000 in
theorem refDecode_g (A : Option Addr) (n c : Nat) (l : List UInt8) (w : World) (hl : l.length = n) (hll : l.length ≤ 17000000) (hcap : l.length ≤ c) (hr : RB w A l) :
    Calls Try.prog 34 #[.slice A n c] w fun e w' => Below w.heap.size w w' ∧
      ((∃ why en, decS l = .inl (why, en) ∧ e = .returned (.tuple #[.slice none 0 0, .int .i64 why, .int .i64 en])) ∨
       (∃ M v, decS l = .inr M ∧ e = .returned (.tuple #[v, .int .i64 0, .int .i64 0]) ∧ w'.ownsRow w.heap.size 88 33 v M.length (lv M) ∧ (∀ x ∈ M, x.2.length = 32) ∧ (∀ x ∈ M, x.1.length ≤ 4000) ∧ M.length ≤ 4096)) := by
  subst hl
  have HR := Lib.hid hr
  have HLL := Lib.hid hll
  have HCAP := Lib.hid hcap
  obtain ⟨R, eR⟩ : ∃ R, R = decS l := ⟨_, rfl⟩
  rw [← eR]
  unfold decS at eR
  have hN := countS_le l 4096 ⟨0, 0, 0⟩
  obtain ⟨N, eN⟩ : ∃ N, N = (countS l 4096 ⟨0, 0, 0⟩).1 := ⟨_, rfl⟩
  obtain ⟨s0, eS⟩ : ∃ s0, s0 = (countS l 4096 ⟨0, 0, 0⟩).2 := ⟨_, rfl⟩
  rw [← eN, ← eS] at eR
  rw [← eN] at hN
  have HRR := Lib.hid eR.symm
  have HN := Lib.hid hN
  have EN := Lib.hid eN
  have ES := Lib.hid eS
  have RF0 := Lib.hid (show RfAt (w.alloc (.cells #[.slice A l.length c, .int .i64 0, .bool false, .int .i64 0, .int .i64 0] 102)) w.heap.size A c l ⟨0, 0, 0⟩ from
    ⟨heap_alloc_new w _, hr.below ((Below.refl _ _).alloc (Nat.le_refl _) _), fun h0 ad e => by
      have := hr.cells.inOld (by rwa [bv_length]) ad e
      omega, hcap, Nat.zero_le _, fun _ => rfl⟩)
  clear hr hll hcap eR eN eS hN
  go_enter Try.func34, Try.ntmps34
  go_wp2_with fail
  have B0 := Lib.hid (show Below w.heap.size w (w.alloc (.cells #[.slice A l.length c, .int .i64 0, .bool false, .int .i64 0, .int .i64 0] 102)) from (Below.refl _ _).alloc (Nat.le_refl _) _)
  refine (rfCount_g _ w.heap.size A c l ⟨0, 0, 0⟩ RF0.out (by have := HLL.out; omega) 4096 (by omega)).mono ?_
  rw [← EN.out, ← ES.out]
  rintro e w2 ⟨rfl, hw, hu⟩
  have R2 := Lib.hid hw
  have B2 := Lib.hid (below_upd B0.out B0.out.size hu (fun k hk => by rw [hk]; exact Nat.le_refl _))
  have S2 := Lib.hid (show w.heap.size + 1 ≤ w2.heap.size by have := hu.size; simp at this; exact this)
  clear hw hu
  go_wp2_with fail
  go_loopg [6, 7, 8] N (fun k s6 s7 s8 wr => ∃ (lf : Nat) (s : Rs) (M : Lks) (P : List Nat) (Ao : Option Addr) (co : Nat) (Ap : Option Addr) (cp : Nat), k = lf ∧ s6 = .int .i64 (lf : Int) ∧ s7 = .slice Ao M.length co ∧ s8 = .slice Ap M.length cp ∧ lf + M.length ≤ 4096 ∧
    RfAt wr w.heap.size A c l s ∧ wr.ownsRow (w.heap.size + 1) 88 33 (.slice Ao M.length co) M.length (lv M) ∧ wr.ownsRow (w.heap.size + 1) 3 1 (.slice Ap M.length cp) M.length (pvn P) ∧
    (∀ k, (Value.slice Ao M.length co).ownBlock = some k → (Value.slice Ap M.length cp).ownBlock ≠ some k) ∧ w.heap.size + 1 ≤ wr.heap.size ∧ Below w.heap.size w wr ∧
    runS l lf s M P = R ∧ (∀ x ∈ M, x.2.length = 32) ∧ (∀ x ∈ M, x.1.length ≤ 4000) ∧ P.length = M.length)
  case atStart => exact ⟨N, s0, [], [], none, 0, none, 0, rfl, rfl, rfl, rfl, by have := HN.out; simp; omega, R2.out, World.ownsRow_nil _ _ _ _, World.ownsRow_nil _ _ _ _, fun k hk => by simp [Value.ownBlock] at hk, S2.out, B2.out, HRR.out, (fun x hx => by cases hx), (fun x hx => by cases hx), rfl⟩
  case round =>
    obtain ⟨lf, s, M, P, Ao, co, Ap, cp, hk, rfl, rfl, rfl, hil, hrd, ho, hp, hdis, hsz, hb, hrun, hMh, hMt, hPl⟩ := hrel
    have HK := Lib.hid hk
    have HIL := Lib.hid hil
    have HRD := Lib.hid hrd
    have HO := Lib.hid ho
    have HP := Lib.hid hp
    have HDIS := Lib.hid hdis
    have HSZ := Lib.hid hsz
    have HB := Lib.hid hb
    have HRUN := Lib.hid hrun
    have HMH := Lib.hid hMh
    have HMT := Lib.hid hMt
    have HPLN := Lib.hid hPl
    clear hk hil hrd ho hp hdis hsz hb hrun hMh hMt hPl R2 B2 S2
    obtain ⟨i, ei⟩ : ∃ i, i = M.length := ⟨_, rfl⟩
    rw [← ei] at HO HP HDIS HIL HPLN ⊢
    have EI := Lib.hid ei
    clear ei
    by_cases hgo : lf ≠ 0 ∧ s.why = 0
    · obtain ⟨hlf, hw0⟩ := hgo
      obtain ⟨m, rfl⟩ : ∃ m, lf = m + 1 := ⟨lf - 1, by omega⟩
      obtain ⟨t, s1, et⟩ : ∃ t s1, textS l 4000 s = (t, s1) := ⟨_, _, rfl⟩
      have ET := Lib.hid et
      have HTL := Lib.hid (show t.length ≤ 4000 by have := textS_small l s; rw [et] at this; exact this)
      have hrs : runS l (m + 1) s M P = runS l m (rawS l 32 s1).2 (M ++ [(t, pad32 (rawS l 32 s1).1)]) (P ++ [s.a]) := by
        show (if s.why ≠ 0 then _ else _) = _
        rw [if_neg (by simpa using hw0)]
        unfold linkS
        rw [et]
      rw [HRUN.out] at hrs
      have hr32 := raw32 l s1
      obtain ⟨x, sh, erw⟩ : ∃ x sh, rawS l 32 s1 = (x, sh) := ⟨_, _, rfl⟩
      rw [erw] at hrs hr32
      dsimp only at hrs hr32
      have HRS := Lib.hid hrs
      have ERW := Lib.hid erw
      have HX32 := Lib.hid hr32
      have HPS := Lib.hid (pad_splice t x hr32)
      have k1 := HRD.out.c1
      have k2 := HRD.out.c2g hw0
      have hlp : (0 : Int) < ((m + 1 : Nat) : Int) := by omega
      have HW0 := Lib.hid hw0
      clear et hrs erw hr32 hw0 hlf
      go_wp2_with (at_builtin; refine append_any rfl (.tmp 29) (.tmp 34) 22 rfl (w.heap.size + 1) 3 (.int .i64 0) 1 8 Try.underlying22 infoI rfl (by omega) (by omega) (.slice Ap i cp) i (pvn P) rfl (HP.out.alloc _) (some ⟨wr.heap.size, 0, none⟩) 1 1 [.int .i64 (s.a : Int)] rfl rfl (RC_newL _ [.int .i64 (s.a : Int)] 3) (by intro u hu; simp at hu; rw [hu]; rfl) (by have := HIL.out; omega) (by have := HSZ.out; simp; omega) ?_)
      intro v4 w4 ho4 hg4 hat4
      have hu4 : Upd (fun k => (Value.slice Ap i cp).ownBlock = some k) wr w4 := ((Upd.refl _ wr).alloc _).grown hg4 (fun k hk _ => hk)
      have HP4 := Lib.hid (show w4.ownsRow (w.heap.size + 1) 3 1 v4 (i + 1) (pvn (P ++ [s.a])) by rw [pvn_snoc]; exact ho4)
      have HO4 := Lib.hid (own_upd HO.out hu4 (fun k hk e => HDIS.out k hk e))
      have R4 := Lib.hid (HRD.out.upd hu4 (fun e => by have := (World.ownsRow.lt HP.out _ e).1; omega) (fun h0 ad e hk => by
        have h1 := (World.ownsRow.lt HP.out _ hk).1
        have h2 := HR.out.cells.inOld (by rwa [bv_length]) ad e
        omega))
      have HB4 := Lib.hid (below_upd HB.out HB.out.size hu4 (fun k hk => by have := (World.ownsRow.lt HP.out k hk).1; omega))
      have HS4 := Lib.hid (show wr.heap.size ≤ w4.heap.size from hu4.size)
      have HD4 := Lib.hid (show ∀ k, (Value.slice Ao i co).ownBlock = some k → v4.ownBlock ≠ some k from fun k hk e => by
        rcases hat4 with h | h
        · exact HDIS.out k hk (h ▸ e)
        · rw [h] at e
          have h1 := (World.ownsRow.lt HO.out k hk).2
          simp at e
          omega)
      obtain ⟨A4, c4, rfl, _⟩ := own_slice ho4
      clear ho4 hg4 hat4 hu4 k1 k2
      go_wp2_with fail
      refine (rfText_g _ _ _ _ _ _ R4.out (by have := HLL.out; omega) 4000 (by omega)).mono ?_
      rw [ET.out]
      dsimp only
      rintro e w5 ⟨rfl, hw, hu⟩
      have R5 := Lib.hid hw
      have HP5 := Lib.hid (own_upd HP4.out hu (fun k hk e => by have := (World.ownsRow.lt HP4.out k hk).1; omega))
      have HO5 := Lib.hid (own_upd HO4.out hu (fun k hk e => by have := (World.ownsRow.lt HO4.out k hk).1; omega))
      have HB5 := Lib.hid (below_upd HB4.out HB4.out.size hu (fun k hk => by rw [hk]; exact Nat.le_refl _))
      have HS5 := Lib.hid (show w.heap.size + 1 ≤ w5.heap.size from Nat.le_trans HSZ.out (Nat.le_trans HS4.out hu.size))
      clear hw hu HP4 HO4 HB4 R4 HS4
      go_upto_region 9 with (refine wpList_store_row rfl 88 (.tmp 9) (.tmp 38) rfl w5.heap.size (lk (t, hd0)).toArray rfl (by rfl) 88 _ (heap_alloc_new w5 _) (by kernel_rfl) (by kernel_rfl) (all_oneCell_toArray (lk_one _)) ?_)
      obtain ⟨z, hz⟩ : ∃ z, z = w5.heap.size := ⟨_, rfl⟩
      rw [← hz]
      generalize hw6 : World.setRow (World.alloc w5 _) z _ = w6
      have hz6 : w6.heap[z]? = some (.cells (lk (t, hd0)).toArray 88) := by rw [← hw6, hz]; exact setRow_heap _ _ _ _ _ _ (heap_alloc_new w5 _)
      have hb56 : Below w5.heap.size w5 w6 := by rw [← hw6, hz]; exact below_setRow ((Below.refl _ _).alloc (Nat.le_refl _) _) _ _ (Nat.le_refl _)
      have R6 := Lib.hid (R5.out.below hb56)
      have HP6 := Lib.hid (own_below HP5.out hb56)
      have HO6 := Lib.hid (own_below HO5.out hb56)
      have HB6 := Lib.hid (below_below HB5.out HB5.out.size hb56)
      have HZ6 := Lib.hid hz6
      have HZB := Lib.hid (show w.heap.size + 1 ≤ z by have := HS5.out; omega)
      have HVO := Lib.hid (show ∀ k, (Value.slice Ao i co).ownBlock = some k → k ≠ z from fun k hk e => by have := (World.ownsRow.lt HO5.out k hk).2; omega)
      have HVP := Lib.hid (show ∀ k, (Value.slice A4 (i + 1) c4).ownBlock = some k → k ≠ z from fun k hk e => by have := (World.ownsRow.lt HP5.out k hk).2; omega)
      clear hw6 hz6 hb56 hz R5 HP5 HO5 HB5 HS5
      simp only [Act.put, List.setIfInBounds_toArray, List.set_cons_zero, List.set_cons_succ]
      go_cut [39] (fun s39 wx => RfAt wx w.heap.size A c l sh ∧ wx.heap[z]? = some (.cells (lk (t, pad32 x)).toArray 88) ∧ Upd (fun k => k = w.heap.size ∨ k = z) w6 wx)
      case first =>
        go_region_law (first
          | (refine step_copy_blk (by simp [Region.wanted]) (.tmp 40) (.tmp 42) 25 25 rfl 5 Try.underlying25 info8c A2 z 1 32 32 x.length c2 (by simp [Act.eval, Act.put]) (bv x) (by simp [Act.eval, Act.put]) (bv_length x) HR8.out.cells (by have := HX32.out; rcases this with h | h <;> simp [h]) (lk (t, hd0)) 88 HZ8.out (by rw [lk_length (t, hd0) (by simp [hd0])]; have := HX32.out; rcases this with h | h <;> simp [h]) (bv_one _) ?_; rw [HPS.out]; intro w9 hz9 hu9)
          | (refine op_call #[.pointer (some ⟨w.heap.size, 0, none⟩), .int .i64 ((32 : Nat) : Int)] (by simp [Region.wanted]) rfl Try.func63 (by kernel_rfl) rfl (by simp [Act.eval, Act.put]) ?_; refine (rfRaw_g w6.drew w.heap.size A c l s1 (R6.out.below ((Below.refl _ _).drew)) 32 (by omega) (by have := HLL.out; omega) (fun _ => .inl (by omega))).mono ?_; rw [ERW.out]; dsimp only; rintro e w8 ⟨A2, c2, rfl, hr8, hnew8, hf8, hu8⟩; have HR8 := Lib.hid hr8; have HF8 := Lib.hid hf8; have HU8 := Lib.hid ((Upd.refl (fun k => k = w.heap.size) w6).drew.trans hu8 (fun _ _ h => h)); have HZ8 := Lib.hid ((hu8.block z (Array.getElem?_eq_some_iff.1 HZ6.out).1 (by have := HZB.out; omega)).trans HZ6.out); clear hr8 hnew8 hf8 hu8; refine ⟨_, rfl, ?_⟩))
        all_goals
          have HF9 := Lib.hid (HF8.out.upd hu9 (by have := HZB.out; omega) (fun h0 ad e hk => by
            have h2 := HR.out.cells.inOld (by rwa [bv_length]) ad e
            have := HZB.out
            omega))
          have HZ9 := Lib.hid hz9
          have HU9 := Lib.hid ((HU8.out.mono (G := fun k => k = w.heap.size ∨ k = z) (fun k _ hk => .inl hk)).trans hu9 (fun _ _ h => .inr h))
          clear hz9 hu9
          go_wp2_with fail
          go_meet
          exact ⟨HF9.out, HZ9.out, HU9.out⟩
      case rest =>
        obtain ⟨hf9, hz9, hu9⟩ := hcut
        have R9 := Lib.hid hf9
        have HUJ := Lib.hid hu9
        obtain ⟨h, eh⟩ : ∃ h, h = pad32 x := ⟨_, rfl⟩
        have HHL := Lib.hid (show h.length = 32 by rw [eh]; exact pad32_length x)
        rw [← eh] at hz9
        have HRH := Lib.hid (show runS l m sh (M ++ [(t, h)]) (P ++ [s.a]) = R by rw [eh]; exact HRS.out.symm)
        have hlkl := lk_length (t, h) HHL.out
        have HPw := Lib.hid (own_upd HP6.out HUJ.out (fun k hk e => e.elim (fun e => by have := (World.ownsRow.lt HP6.out k hk).1; omega) (HVP.out k hk)))
        have HOw := Lib.hid (own_upd HO6.out HUJ.out (fun k hk e => e.elim (fun e => by have := (World.ownsRow.lt HO6.out k hk).1; omega) (HVO.out k hk)))
        have HBw := Lib.hid (below_upd HB6.out HB6.out.size HUJ.out (fun k hk => by
          rcases hk with e | e
          · rw [e]; exact Nat.le_refl _
          · rw [e]; exact Nat.le_of_succ_le HZB.out))
        obtain ⟨lc, elc⟩ : ∃ lc, lc = (lk (t, h)).toArray := ⟨_, rfl⟩
        have hil2 : (Try.prog.info? 88).map (·.size) = some lc.size := by rw [elc, List.size_toArray, hlkl]; exact info33r
        rw [← elc] at hz9
        have HZJ := Lib.hid hz9
        have HF1 := Lib.hid (show Try.prog.builtSlice 88 1 [(0, .agg lc)] = some lc by rw [elc]; exact built_one2 t h HHL.out)
        have HIL2 := Lib.hid hil2
        have ELC := Lib.hid elc
        have HLK := Lib.hid hlkl
        have HSw := Lib.hid (show w.heap.size + 1 ≤ wc.heap.size by have := (Array.getElem?_eq_some_iff.1 HZJ.out).1; have := HZB.out; omega)
        have HPSw := Lib.hid (show ∀ k, (Value.slice A4 (i + 1) c4).ownBlock = some k → k < wc.heap.size from fun k hk => (World.ownsRow.lt HPw.out k hk).2)
        clear hf9 hz9 hu9 eh hlkl elc hil2 HP6 HO6 HB6
        go_upto_region 10 with fail
        refine wp_region_lit ?_
        refine Great.wpList_readTo rfl _ rfl (.slice Ao i co) rfl ?_
        refine wpList_load_row rfl 88 (.tmp 9) rfl z rfl 88 lc (0, 0) _ HZJ.out Try.underlying88 rfl HIL2.out ?_
        refine Great.wpList_buildSliceTo rfl 65 88 1 _ rfl wc.heap.size rfl (some 46) rfl Try.underlying65 lc (by simp only [List.map_toArray, List.map_cons, List.map_nil]; exact HF1.out) ?_
        refine append_any rfl (.tmp 44) (.tmp 46) 65 rfl (w.heap.size + 1) 88 (.agg (lk ([], hd0)).toArray) 33 48 Try.underlying65 infoLkr (by kernel_rfl) (by omega) (by omega) (.slice Ao i co) i (lv M) rfl (HOw.out.alloc _) (some ⟨wc.heap.size, 0, none⟩) 1 1 (lk (t, h)) rfl ?c1 ?c2 (lk_one _) ?c3 ?c4 ?_
        case c1 => rw [HLK.out]
        case c2 => rw [ELC.out]; exact RC_newL wc (lk (t, h)) _
        case c3 => have := HIL.out; omega
        case c4 => have := HSw.out; simp; omega
        intro v9 w9 ho9 hg9 hat9
        have hu9 : Upd (fun k => (Value.slice Ao i co).ownBlock = some k) wc w9 := ((Upd.refl _ wc).alloc _).grown hg9 (fun k hk _ => hk)
        have HO9 := Lib.hid (show w9.ownsRow (w.heap.size + 1) 88 33 v9 (i + 1) (lv (M ++ [(t, h)])) by rw [lv_snoc]; exact ho9)
        have HP9 := Lib.hid (own_upd HPw.out hu9 (fun k hk e => HD4.out k e hk))
        have R10 := Lib.hid (R9.out.upd hu9 (fun e => by have := (World.ownsRow.lt HOw.out _ e).1; omega) (fun h0 ad e hk => by
          have h1 := (World.ownsRow.lt HOw.out _ hk).1
          have h2 := HR.out.cells.inOld (by rwa [bv_length]) ad e
          omega))
        have HB9 := Lib.hid (below_upd HBw.out HBw.out.size hu9 (fun k hk => by have := (World.ownsRow.lt HOw.out k hk).1; omega))
        have HS9 := Lib.hid (show w.heap.size + 1 ≤ w9.heap.size from Nat.le_trans HSw.out hu9.size)
        have HD9 := Lib.hid (show ∀ k, v9.ownBlock = some k → (Value.slice A4 (i + 1) c4).ownBlock ≠ some k from fun k hk e => by
          rcases hat9 with h | h
          · exact HD4.out k (h ▸ hk) e
          · rw [h] at hk
            have h1 := HPSw.out k e
            simp at hk
            omega)
        obtain ⟨A9, c9, rfl, _⟩ := own_slice ho9
        clear ho9 hg9 hat9 hu9
        have hML : (M ++ [(t, h)]).length = i + 1 := by rw [List.length_append, ← EI.out]; rfl
        have HML := Lib.hid hML
        have hmN : (m : Int) ≤ 4096 := by have := HIL.out; omega
        clear hML
        go_wp2_with fail
        go_roundg m
        case measure => exact Nat.lt_of_lt_of_eq (Nat.lt_succ_self m) HK.out.symm
        case rel =>
          refine ⟨m, sh, M ++ [(t, h)], P ++ [s.a], A9, c9, A4, c4, rfl, by go_num, by rw [HML.out], by rw [HML.out], by rw [HML.out]; have := HIL.out; omega, R10.out, by rw [HML.out]; exact HO9.out, by rw [HML.out]; exact HP9.out, by rw [HML.out]; exact HD9.out, HS9.out, HB9.out, HRH.out, ?_, ?_, by rw [HML.out, List.length_append, HPLN.out]; rfl⟩
          · intro y hy
            rcases List.mem_append.1 hy with hy | hy
            · exact HMH.out y hy
            · rw [List.mem_singleton.1 hy]; exact HHL.out
          · intro y hy
            rcases List.mem_append.1 hy with hy | hy
            · exact HMT.out y hy
            · rw [List.mem_singleton.1 hy]; exact HTL.out
    · have hconc : R = concS l s M P := by
        have hr2 := HRUN.out
        by_cases h0 : s.why = 0
        · obtain rfl : lf = 0 := Classical.byContradiction fun h => hgo ⟨h, h0⟩
          exact hr2.symm
        · rw [runS_bad l lf s M P h0] at hr2
          unfold concS endS
          rw [if_pos h0, if_pos h0]
          exact hr2.symm
      have HCONC := Lib.hid hconc
      have HGO := Lib.hid hgo
      clear hconc hgo
      by_cases hl0 : lf = 0
      · subst hl0
        have k1 := HRD.out.c1
        go_wp2_with fail
        refine (rfEnd_g _ _ _ _ _ _ HRD.out (by have := HLL.out; omega)).mono ?_
        obtain ⟨ew, een, eend⟩ : ∃ ew een, endS l s = (ew, een) := ⟨_, _, rfl⟩
        have hru := HCONC.out
        unfold concS at hru
        rw [eend] at hru ⊢
        dsimp only at hru ⊢
        rintro e w3 ⟨rfl, hb3⟩
        have HO3 := Lib.hid (own_below HO.out hb3)
        have HP3 := Lib.hid (own_below HP.out hb3)
        have HB3 := Lib.hid (below_below HB.out HB.out.size hb3)
        have hM4 : M.length ≤ 4096 := by have := HIL.out; have := EI.out; omega
        have HM4 := Lib.hid hM4
        have hi4 : i ≤ 4096 := by have := HIL.out; omega
        clear hb3 eend k1 hM4
        by_cases hew : ew ≠ 0
        · rw [if_pos hew] at hru
          have HRU := Lib.hid hru
          have hne : (ew != 0) = true := by simpa using hew
          clear hru
          go_wp2_with fail
          go_ret3
          exact ⟨HB3.out, .inl ⟨_, _, HRU.out, rfl⟩⟩
        obtain rfl : ew = 0 := Classical.byContradiction hew
        rw [if_neg (by simp)] at hru
        have HRU := Lib.hid hru
        clear hru
        go_wp2_with fail
        obtain ⟨K, eK⟩ : ∃ K, K = checkOf M := ⟨_, rfl⟩
        have hKl : K ≤ i := by rw [eK]; have := checkOf_le M; have := EI.out; omega
        refine (refCheck_any Ao i co M w3 EI.out.symm (by omega) (fun x hx => by have := HMT.out x hx; omega) HMH.out (own_RC HO3.out)).mono ?_
        rw [← eK]
        rintro e w4 ⟨rfl, hb4⟩
        have HO4 := Lib.hid (own_below HO3.out hb4)
        have HP4 := Lib.hid (own_below HP3.out hb4)
        have HB4 := Lib.hid (below_below HB3.out HB3.out.size hb4)
        have HEK := Lib.hid eK
        clear hb4 eK
        by_cases hKi : K < i
        · obtain ⟨gp, cp2, hpe, _, _⟩ := own_form HP4.out (by omega)
          cases hpe
          have kp : w4.cell? ⟨gp, K, none⟩ = some (.int .i64 ((P.getD K 0 : Nat) : Int)) := by
            have hKP : K < P.length := by rw [HPLN.out]; exact hKi
            have hlp : 0 < (pvn P).length := by simp [pvn]; omega
            obtain ⟨ad, e7, hc7⟩ := own_RC HP4.out hlp
            cases e7
            have := hc7 K _ (show (pvn P)[K]? = some (.int .i64 ((P.getD K 0 : Nat) : Int)) by simp [pvn, List.getElem?_eq_getElem hKP])
            rwa [add_off, Nat.zero_add] at this
          obtain ⟨pk, epk⟩ : ∃ pk, pk = P.getD K 0 := ⟨_, rfl⟩
          rw [← epk] at kp
          have EPK := Lib.hid epk
          have hK0 : (0 : Int) ≤ (K : Int) := by omega
          have hK1 : (K : Int) < (i : Int) := by omega
          have HKI := Lib.hid hKi
          clear hKi hKl epk
          go_upto_region 16 with fail
          go_region
          all_goals
            go_wp2_with fail
            go_ret3
            refine ⟨HB4.out.drew, .inl ⟨12, (pk : Int), ?_, rfl⟩⟩
            rw [HRU.out, ← HEK.out, if_pos (by rw [← EI.out]; exact HKI.out), ← EPK.out]
        · obtain rfl : K = i := by omega
          clear hKi hKl
          go_wp2_with fail
          go_ret3
          refine ⟨HB4.out, .inr ⟨M, _, ?_, rfl, by rw [← EI.out]; exact own_lower HO4.out (Nat.le_succ _), HMH.out, HMT.out, HM4.out⟩⟩
          rw [HRU.out, ← HEK.out, if_neg (by rw [EI.out]; exact Nat.lt_irrefl _)]
      · have hwb : s.why ≠ 0 := fun h => HGO.out ⟨hl0, h⟩
        have k1 := HRD.out.c2b hwb
        have hlp : (0 : Int) < (lf : Int) := by omega
        clear hwb
        go_wp2_with fail
        refine (rfEnd_g _ _ _ _ _ _ HRD.out (by have := HLL.out; omega)).mono ?_
        obtain ⟨ew, een, eend⟩ : ∃ ew een, endS l s = (ew, een) := ⟨_, _, rfl⟩
        have hru := HCONC.out
        unfold concS at hru
        rw [eend] at hru ⊢
        dsimp only at hru ⊢
        rintro e w3 ⟨rfl, hb3⟩
        have HO3 := Lib.hid (own_below HO.out hb3)
        have HP3 := Lib.hid (own_below HP.out hb3)
        have HB3 := Lib.hid (below_below HB.out HB.out.size hb3)
        have hM4 : M.length ≤ 4096 := by have := HIL.out; have := EI.out; omega
        have HM4 := Lib.hid hM4
        have hi4 : i ≤ 4096 := by have := HIL.out; omega
        clear hb3 eend k1 hM4
        by_cases hew : ew ≠ 0
        · rw [if_pos hew] at hru
          have HRU := Lib.hid hru
          have hne : (ew != 0) = true := by simpa using hew
          clear hru
          go_wp2_with fail
          go_ret3
          exact ⟨HB3.out, .inl ⟨_, _, HRU.out, rfl⟩⟩
        obtain rfl : ew = 0 := Classical.byContradiction hew
        rw [if_neg (by simp)] at hru
        have HRU := Lib.hid hru
        clear hru
        go_wp2_with fail
        obtain ⟨K, eK⟩ : ∃ K, K = checkOf M := ⟨_, rfl⟩
        have hKl : K ≤ i := by rw [eK]; have := checkOf_le M; have := EI.out; omega
        refine (refCheck_any Ao i co M w3 EI.out.symm (by omega) (fun x hx => by have := HMT.out x hx; omega) HMH.out (own_RC HO3.out)).mono ?_
        rw [← eK]
        rintro e w4 ⟨rfl, hb4⟩
        have HO4 := Lib.hid (own_below HO3.out hb4)
        have HP4 := Lib.hid (own_below HP3.out hb4)
        have HB4 := Lib.hid (below_below HB3.out HB3.out.size hb4)
        have HEK := Lib.hid eK
        clear hb4 eK
        by_cases hKi : K < i
        · obtain ⟨gp, cp2, hpe, _, _⟩ := own_form HP4.out (by omega)
          cases hpe
          have kp : w4.cell? ⟨gp, K, none⟩ = some (.int .i64 ((P.getD K 0 : Nat) : Int)) := by
            have hKP : K < P.length := by rw [HPLN.out]; exact hKi
            have hlp : 0 < (pvn P).length := by simp [pvn]; omega
            obtain ⟨ad, e7, hc7⟩ := own_RC HP4.out hlp
            cases e7
            have := hc7 K _ (show (pvn P)[K]? = some (.int .i64 ((P.getD K 0 : Nat) : Int)) by simp [pvn, List.getElem?_eq_getElem hKP])
            rwa [add_off, Nat.zero_add] at this
          obtain ⟨pk, epk⟩ : ∃ pk, pk = P.getD K 0 := ⟨_, rfl⟩
          rw [← epk] at kp
          have EPK := Lib.hid epk
          have hK0 : (0 : Int) ≤ (K : Int) := by omega
          have hK1 : (K : Int) < (i : Int) := by omega
          have HKI := Lib.hid hKi
          clear hKi hKl epk
          go_upto_region 16 with fail
          go_region
          all_goals
            go_wp2_with fail
            go_ret3
            refine ⟨HB4.out.drew, .inl ⟨12, (pk : Int), ?_, rfl⟩⟩
            rw [HRU.out, ← HEK.out, if_pos (by rw [← EI.out]; exact HKI.out), ← EPK.out]
        · obtain rfl : K = i := by omega
          clear hKi hKl
          go_wp2_with fail
          go_ret3
          refine ⟨HB4.out, .inr ⟨M, _, ?_, rfl, by rw [← EI.out]; exact own_lower HO4.out (Nat.le_succ _), HMH.out, HMT.out, HM4.out⟩⟩
          rw [HRU.out, ← HEK.out, if_neg (by rw [EI.out]; exact Nat.lt_irrefl _)]
end Go.Proofs.Ytjakhemolecbnaa
end

/-
  The walk of the reference's Outcomes.
-/
section
set_option linter.unusedVariables false
set_option linter.unusedSimpArgs false
namespace Go.Proofs.Ytjakhemolecbnaa
open Go.RowKit

theorem refDecode_l (A : Option Addr) (n c : Nat) (l : List UInt8) (w : World) (hl : l.length = n) (hll : l.length ≤ 17000000) (hcap : l.length ≤ c) (hr : RB w A l) :
    Calls Try.prog 34 #[.slice A n c] w fun e w' => Below w.heap.size w w' ∧ ∃ (bl : Option Addr) (cl : Nat) (why en : Int), e = .returned (.tuple #[.slice bl (linksD l).length cl, .int .i64 why, .int .i64 en]) ∧ w'.ownsRow w.heap.size 88 33 (.slice bl (linksD l).length cl) (linksD l).length (lv (linksD l)) ∧ (∀ x ∈ linksD l, x.2.length = 32) ∧ (∀ x ∈ linksD l, x.1.length ≤ 4000) ∧ (linksD l).length ≤ 4096 ∧ (linksD l = [] ∨ why = 0) := by
  refine (refDecode_g A n c l w hl hll hcap hr).mono ?_
  rintro e w' ⟨hb, hd⟩
  refine ⟨hb, ?_⟩
  rcases hd with ⟨why, en, hde, rfl⟩ | ⟨M, v, hde, rfl, hvo, hMh, hMt, hMl⟩
  · have e0 : linksD l = [] := by unfold linksD; rw [hde]
    rw [e0]
    exact ⟨none, 0, why, en, rfl, World.ownsRow_nil _ _ _ _, (fun x hx => by cases hx), (fun x hx => by cases hx), Nat.zero_le _, .inl rfl⟩
  · have e0 : linksD l = M := by unfold linksD; rw [hde]
    rw [e0]
    obtain ⟨bl, cl, rfl, hcl⟩ := own_slice hvo
    exact ⟨bl, cl, 0, 0, rfl, hvo, hMh, hMt, hMl, .inr rfl⟩

set_option maxRecDepth 100000 in
set_option maxHeartbeats 8000000 in
theorem refOutcomes_any (A : Option Addr) (n c : Nat) (L : List Cl) (tx : List UInt8) (w : World) (hl : L.length = n) (hn : n ≤ 1000) (hr : ClsAt w A L) (hcap : ∀ x ∈ L, x.l.length ≤ x.c) :
    Calls Try.prog 15 #[.slice A n c, .string (strB tx)] w fun e w' => ∃ A' c', e = .returned (.slice A' (outS tx L).length c') ∧ Below w.heap.size w w' ∧ RG w' A' (outS tx L) := by
  subst hl
  have HR := Lib.hid hr
  have HN := Lib.hid hn
  have HCAP := Lib.hid hcap
  obtain ⟨zt, hzt⟩ : ∃ zt, zt = strB tx := ⟨_, rfl⟩
  rw [← hzt]
  have HZT := Lib.hid hzt
  clear hr hn hzt hcap
  go_enter Try.func15, Try.ntmps15
  go_wp2_with fail
  go_loopg [5, 6, 7] L.length (fun k s5 s6 s19 wr => ∃ i : Nat, i ≤ L.length ∧ k = L.length - i ∧ s5 = .bool (anyO 3 tx (L.take i)) ∧ s6 = .bool (anyO 4 tx (L.take i)) ∧ s19 = .int .i64 (i : Int) ∧ Below w.heap.size w wr)
  case atStart => exact ⟨0, Nat.zero_le _, by omega, rfl, rfl, rfl, Below.refl _ _⟩
  case round =>
    obtain ⟨i, hi, hk, rfl, rfl, rfl, hb⟩ := hrel
    have HK := Lib.hid hk
    have HB := Lib.hid hb
    clear hk hb
    have hi2 : (i : Int) ≤ 1000 := by have := HN.out; omega
    by_cases hlt : i < L.length
    · obtain ⟨x, hx⟩ : ∃ x, L[i]? = some x := ⟨_, List.getElem?_eq_getElem hlt⟩
      have HXM := Lib.hid (List.mem_of_getElem? hx)
      have T3 := Lib.hid (show anyO 3 tx (L.take (i + 1)) = (anyO 3 tx (L.take i) || hasO 3 tx (linksD x.l)) from any_take _ L i x hx)
      have T4 := Lib.hid (show anyO 4 tx (L.take (i + 1)) = (anyO 4 tx (L.take i) || hasO 4 tx (linksD x.l)) from any_take _ L i x hx)
      obtain ⟨b1, o1, rfl, e1⟩ := (HR.out.r).part (by rw [clc_length]; omega)
      have q0 : wr.cell? ⟨b1, o1 + i * 2, none⟩ = some (.int .i64 x.g) := cell_below HB.out (e1 _ _ ((clc_get L i x hx 0 (by omega)).trans rfl))
      have q1 : wr.cell? ⟨b1, o1 + i * 2 + 1, none⟩ = some (.slice x.A x.l.length x.c) := by
        rw [Nat.add_assoc]
        exact cell_below HB.out (e1 _ _ ((clc_get L i x hx 1 (by omega)).trans rfl))
      have hi0 : (0 : Int) ≤ (i : Int) := by omega
      have hi1 : (i : Int) < (L.length : Int) := by omega
      have HXB := Lib.hid (show RB wr x.A x.l ∧ x.l.length ≤ x.c ∧ x.l.length ≤ 17000000 by
        have h := HR.out.b x HXM.out
        exact ⟨h.1.below HB.out, HCAP.out x HXM.out, h.2.2⟩)
      obtain ⟨xg, xA, xc, xl⟩ := x
      dsimp only at *
      have HB5 := HB
      have HLT := Lib.hid hlt
      clear hx e1 hlt hi
      go_wp2_with fail
      refine (refDecode_l xA _ xc xl wr rfl HXB.out.2.2 HXB.out.2.1 HXB.out.1).mono ?_
      rintro e w6 ⟨hb6, bl, cl, why, en, rfl, hvo, hMh, hMt, hMl, hwhy⟩
      generalize linksD xl = M at *
      have HB6 := Lib.hid (below_below HB5.out HB5.out.size hb6)
      have HVO := Lib.hid hvo
      have HMH := Lib.hid hMh
      have HMT := Lib.hid hMt
      have HML := Lib.hid hMl
      have HWHY := Lib.hid hwhy
      generalize anyO 3 tx (L.take i) = c3 at *
      generalize anyO 4 tx (L.take i) = c4 at *
      clear hb6 hvo hMh hMt hMl hwhy q0 q1
      go_wp2_with fail
      go_loopg [5, 6, 11] M.length (fun k s5 s6 s32 wx => ∃ j : Nat, j ≤ M.length ∧ k = M.length - j ∧ s5 = .bool (c3 || hasO 3 tx (M.take j)) ∧ s6 = .bool (c4 || hasO 4 tx (M.take j)) ∧ s32 = .int .i64 (j : Int) ∧ Below w6.heap.size w6 wx)
      case atStart => exact ⟨0, Nat.zero_le _, by omega, by simp [hasO], by simp [hasO], rfl, Below.refl _ _⟩
      case round =>
        obtain ⟨j, hj, hk, rfl, rfl, rfl, hb⟩ := hrel
        have HK2 := Lib.hid hk
        have HBX := Lib.hid hb
        clear hk hb
        have hj2 : (j : Int) ≤ 4096 := by have := HML.out; omega
        by_cases hlt2 : j < M.length
        · obtain ⟨b2, o2, rfl, e2⟩ := (own_RC (own_below HVO.out HBX.out)).parts (by rw [lv_length M HMH.out]; omega)
          obtain rfl : why = 0 := by
            rcases HWHY.out with h | h
            · rw [h] at hlt2; exact absurd hlt2 (by simp)
            · exact h
          have cz : wr.cell? ⟨b2, o2 + j * 33, none⟩ = some (.string (strB M[j].1)) := by
            have h := lk_range HMH.out e2 j hlt2 0 (.string (strB M[j].1)) rfl
            exact h
          have hhl := HMH.out _ (List.getElem_mem hlt2)
          have htl := HMT.out _ (List.getElem_mem hlt2)
          have U3 := Lib.hid (show hasO 3 tx (M.take (j + 1)) = (hasO 3 tx (M.take j) || recO 3 tx M[j].1) from any_take _ M j _ (List.getElem?_eq_getElem hlt2))
          have U4 := Lib.hid (show hasO 4 tx (M.take (j + 1)) = (hasO 4 tx (M.take j) || recO 4 tx M[j].1) from any_take _ M j _ (List.getElem?_eq_getElem hlt2))
          obtain ⟨d3, hd3⟩ : ∃ d3, d3 = (c3 || hasO 3 tx (M.take j)) := ⟨_, rfl⟩
          obtain ⟨d4, hd4⟩ : ∃ d4, d4 = (c4 || hasO 4 tx (M.take j)) := ⟨_, rfl⟩
          have V3 := Lib.hid (show (c3 || hasO 3 tx (M.take (j + 1))) = (d3 || recO 3 tx M[j].1) by rw [U3.out, hd3, Bool.or_assoc])
          have V4 := Lib.hid (show (c4 || hasO 4 tx (M.take (j + 1))) = (d4 || recO 4 tx M[j].1) by rw [U4.out, hd4, Bool.or_assoc])
          rw [← hd3, ← hd4]
          clear U3 U4 hd3 hd4
          generalize M[j] = x at *
          have hj0 : (0 : Int) ≤ (j : Int) := by omega
          have hj1 : (j : Int) < (M.length : Int) := by omega
          have HLT2 := Lib.hid hlt2
          have HTL := Lib.hid htl
          have HB7 := HBX
          clear e2 hhl htl hlt2 hj
          go_wp2_with fail
          refine (refRead_any x.1 wr (by have := HTL.out; omega)).mono ?_
          rintro e w8 ⟨hb8, hres⟩
          have HB8 := Lib.hid (below_below HB7.out HB7.out.size hb8)
          clear hb8 cz
          rcases hres with ⟨hrn, rfl⟩ | ⟨r, Ar, cr, hrs, rfl, hro⟩
          · unfold recZ
            have R3 := Lib.hid (show recO 3 tx x.1 = false by unfold recO; rw [hrn])
            have R4 := Lib.hid (show recO 4 tx x.1 = false by unfold recO; rw [hrn])
            clear hrn
            go_wp2_with fail
            go_roundg (M.length - (j + 1))
            case measure => have := HK2.out; have := HLT2.out; omega
            case rel =>
              refine ⟨j + 1, HLT2.out, rfl, ?_, ?_, by go_num, HB8.out.alloc (by have := HB8.out.size; omega) _⟩
              · rw [V3.out, R3.out, Bool.or_false]
              · rw [V4.out, R4.out, Bool.or_false]
          · obtain ⟨rk, rt, rg, rb⟩ := r
            have R3 := Lib.hid (show recO 3 tx x.1 = (decide (rt = tx) && (rk == 3)) by unfold recO; rw [hrs]; rfl)
            have R4 := Lib.hid (show recO 4 tx x.1 = (decide (rt = tx) && (rk == 4)) by unfold recO; rw [hrs]; rfl)
            unfold Rp.m Rm.cells
            dsimp only
            obtain ⟨zr, hzr⟩ : ∃ zr, zr = strB rt := ⟨_, rfl⟩
            obtain ⟨zb, hzb⟩ : ∃ zb, zb = strB rb := ⟨_, rfl⟩
            rw [← hzr, ← hzb]
            have HRO := Lib.hid hro
            have HZR := Lib.hid hzr
            clear hrs hro hzr hzb
            by_cases ht : rt = tx
            · have e3 := R3.out
              have e4 := R4.out
              rw [decide_eq_true ht, Bool.true_and] at e3 e4
              obtain rfl : zr = zt := by rw [HZR.out, HZT.out, ht]
              have E3 := Lib.hid e3
              have E4 := Lib.hid e4
              clear e3 e4 ht
              cases d3 <;> cases d4
              all_goals
                go_wp2_with fail
                go_roundg (M.length - (j + 1))
                case measure => have := HK2.out; have := HLT2.out; omega
                case rel =>
                  refine ⟨j + 1, HLT2.out, rfl, ?_, ?_, by go_num, HB8.out.alloc (by have := HB8.out.size; omega) _⟩
                  · rw [V3.out, E3.out]; simp
                  · rw [V4.out, E4.out]; simp
            · have e3 := R3.out
              have e4 := R4.out
              rw [decide_eq_false ht, Bool.false_and] at e3 e4
              have hzf : (zr.toList == zt.toList) = false := by
                rw [HZR.out, HZT.out, ByteArray.toList_eq, ByteArray.toList_eq, strB_toList, strB_toList]
                simpa using ht
              have E3 := Lib.hid e3
              have E4 := Lib.hid e4
              clear e3 e4 ht
              go_wp2_with fail
              go_roundg (M.length - (j + 1))
              case measure => have := HK2.out; have := HLT2.out; omega
              case rel =>
                refine ⟨j + 1, HLT2.out, rfl, ?_, ?_, by go_num, HB8.out.alloc (by have := HB8.out.size; omega) _⟩
                · rw [V3.out, E3.out, Bool.or_false]
                · rw [V4.out, E4.out, Bool.or_false]
        · obtain rfl : j = M.length := by omega
          rw [List.take_length]
          clear hlt2 hj
          go_wp2_with fail
          go_roundg (L.length - (i + 1))
          case measure => have := HK.out; have := HLT.out; omega
          case rel => have := HLT.out; have := HN.out; exact ⟨i + 1, HLT.out, rfl, by rw [T3.out], by rw [T4.out], by go_num, below_below HB6.out HB6.out.size HBX.out⟩
    · obtain rfl : i = L.length := by omega
      rw [List.take_length]
      obtain ⟨c3, h3⟩ : ∃ c3, c3 = anyO 3 tx L := ⟨_, rfl⟩
      obtain ⟨c4, h4⟩ : ∃ c4, c4 = anyO 4 tx L := ⟨_, rfl⟩
      rw [← h3, ← h4]
      have H3 := Lib.hid h3
      have H4 := Lib.hid h4
      have HO := Lib.hid (show outS tx L = (if c3 = true then [1] else []) ++ (if c4 = true then [2] else []) by rw [h3, h4]; rfl)
      clear hlt hi h3 h4
      cases c3 <;> cases c4
      · go_wp2_with fail
        go_ret
        rw [HO.out]
        exact ⟨none, 0, rfl, HB.out, fun h => absurd h (by simp)⟩
      · go_wp2_with (at_builtin; refine append_any rfl _ _ 22 rfl wr.heap.size 3 (.int .i64 0) 1 8 Try.underlying22 infoI rfl (by omega) (by omega) _ 0 [] rfl (World.ownsRow_nil _ _ _ _) _ 1 _ [.int .i64 2] rfl rfl (RC_newL _ [.int .i64 2] 3) (by intro u hu; simp at hu; rw [hu]; rfl) (by decide) (by simp) ?_)
        intro v6 w6 ho6 hg6 hat6
        obtain ⟨A6, c6, rfl, hc6⟩ := own_slice ho6
        have hb6 : Below w.heap.size w w6 := (HB.out.alloc HB.out.size _).grown hg6 (by have := HB.out.size; simp; omega) (fun k hk => by cases hk)
        have HO6 := Lib.hid ho6
        have HB6 := Lib.hid hb6
        clear ho6 hg6 hat6 hb6 hc6
        go_wp2_with fail
        go_ret
        rw [HO.out]
        exact ⟨A6, c6, rfl, HB6.out, own_RC HO6.out⟩
      · go_wp2_with (at_builtin; refine append_any rfl _ _ 22 rfl wr.heap.size 3 (.int .i64 0) 1 8 Try.underlying22 infoI rfl (by omega) (by omega) _ 0 [] rfl (World.ownsRow_nil _ _ _ _) _ 1 _ [.int .i64 1] rfl rfl (RC_newL _ [.int .i64 1] 3) (by intro u hu; simp at hu; rw [hu]; rfl) (by decide) (by simp) ?_)
        intro v6 w6 ho6 hg6 hat6
        obtain ⟨A6, c6, rfl, hc6⟩ := own_slice ho6
        have hb6 : Below w.heap.size w w6 := (HB.out.alloc HB.out.size _).grown hg6 (by have := HB.out.size; simp; omega) (fun k hk => by cases hk)
        have HO6 := Lib.hid ho6
        have HB6 := Lib.hid hb6
        clear ho6 hg6 hat6 hb6 hc6
        go_wp2_with fail
        go_ret
        rw [HO.out]
        exact ⟨A6, c6, rfl, HB6.out, own_RC HO6.out⟩
      · go_wp2_with (at_builtin; refine append_any rfl _ _ 22 rfl wr.heap.size 3 (.int .i64 0) 1 8 Try.underlying22 infoI rfl (by omega) (by omega) _ 0 [] rfl (World.ownsRow_nil _ _ _ _) _ 1 _ [.int .i64 1] rfl rfl (RC_newL _ [.int .i64 1] 3) (by intro u hu; simp at hu; rw [hu]; rfl) (by decide) (by simp) ?_)
        intro v6 w6 ho6 hg6 hat6
        obtain ⟨A6, c6, rfl, hc6⟩ := own_slice ho6
        have hb6 : Below w.heap.size w w6 := (HB.out.alloc HB.out.size _).grown hg6 (by have := HB.out.size; simp; omega) (fun k hk => by cases hk)
        have HO6 := Lib.hid ho6
        have HB6 := Lib.hid hb6
        have HS6 := Lib.hid (show wr.heap.size ≤ w6.heap.size by have := hg6.size; simp at this; omega)
        clear ho6 hg6 hat6 hb6 hc6
        go_wp2_with (at_builtin; refine append_any rfl _ _ 22 rfl wr.heap.size 3 (.int .i64 0) 1 8 Try.underlying22 infoI rfl (by omega) (by omega) _ 1 [.int .i64 1] rfl (HO6.out.alloc _) _ 1 _ [.int .i64 2] rfl rfl (RC_newL _ [.int .i64 2] 3) (by intro u hu; simp at hu; rw [hu]; rfl) (by decide) (by have := HS6.out; simp; omega) ?_)
        intro v7 w7 ho7 hg7 hat7
        obtain ⟨A7, c7, rfl, hc7⟩ := own_slice ho7
        have hb7 : Below w.heap.size w w7 := (HB6.out.alloc HB6.out.size _).grown hg7 (by have := HB6.out.size; simp; omega) (fun k hk => by have := (World.ownsRow.lt HO6.out k hk).1; have := HB.out.size; omega)
        have HO7 := Lib.hid ho7
        have HB7 := Lib.hid hb7
        clear ho7 hg7 hat7 hb7 hc7
        go_wp2_with fail
        go_ret
        rw [HO.out]
        exact ⟨A7, c7, rfl, HB7.out, own_RC HO7.out⟩
end Go.Proofs.Ytjakhemolecbnaa
end
