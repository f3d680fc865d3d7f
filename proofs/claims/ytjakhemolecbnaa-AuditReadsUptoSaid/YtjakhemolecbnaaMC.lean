/-
  The texts WireU, ChainWire, ReadU, ChainPrefix, ChainCheck, Known19, ChainDecode, ChainCheckG, ChainDecodeG, ReadBad, RdG, DecG of this proof in one: what each proves is said at its head. No conditions beyond those that each theorem says.
-/
import Derived.Lib.AppendStr
import Derived.Test.YtjakhemolecbnaaMA
import Derived.Test.YtjakhemolecbnaaMB

/-
  The walks of wire again, with the blocks that each call may turn.
-/
section
set_option linter.unusedVariables false
set_option linter.unusedSimpArgs false
namespace Go.Proofs.Ytjakhemolecbnaa
open Go.RowKit

section
variable {P : Program}
/-- 'append(v, s...)', v a row of one's own that is not empty: where the new row lies. -/
theorem run_append_str (w : World) (base : Nat) (t u ty e : TypeId) (i : TypeInfo) (ht : P.underlying t = some (.slice e)) (hu : P.underlying u = some .string) (hi : P.info? e = some i) (hz : i.zero = some (.int .u8 0))
    (hsize : i.size = 1) (hby : i.bytes = 1) (v : Value) (n : Nat) (xs : List Value) (hown : w.ownsRow base e 1 v n xs) (hn0 : 0 < n) (s : ByteArray) (hn : n + s.size ≤ 1000000000) (hbase : base ≤ w.heap.size) :
    ∃ v' w', (Builtin.append_ #[t, u] ty #[v, .string s]).run P w = .ok v' w' ∧ w'.ownsRow base e 1 v' (n + s.size) (xs ++ Lib.strCells s) ∧ w.grownBy w' v.ownBlock ∧ (v'.ownBlock = v.ownBlock ∨ v'.ownBlock = some w.heap.size) := by
  obtain ⟨v', w', hr, h2, h3, _⟩ := Lib.run_append_own_string (P := P) w base t u ty e i ht hu hi hz hsize hby v n xs hown s (by simp only [maxLen]; omega) (by omega) hbase
  refine ⟨v', w', hr, h2, h3, ?_⟩
  have hxl : xs.length = n := by simpa using hown.1
  rcases hown.2 with ⟨_, h0⟩ | ⟨g, cap, cur, rfl, hb, hg, hnc, hcm, hcs, htk⟩
  · omega
  · by_cases hroom : n + s.size ≤ cap
    · have hr2 := Lib.run_append_room_string (P := P) w t u ty e i ht hu hi hsize g n cap cur hg s hroom (by rw [hcs]; omega)
      rw [hr] at hr2
      simp only [Result.ok.injEq] at hr2
      left
      rw [hr2.1]
      rfl
    · have holds : ∀ j u, xs[j]? = some u → w.cell? ((⟨g, 0, none⟩ : Addr).add j) = some u := hown.cells (g := g) rfl
      have hr2 := Lib.run_append_grow_string (P := P) w t u ty e i (.int .u8 0) ht hu hi hz ⟨g, 0, none⟩ n cap xs (by rw [hsize, hxl, Nat.mul_one]) holds s (by omega) (by omega) (by rw [hby]; exact growslice_fits (by omega) (by omega))
      rw [hr] at hr2
      simp only [Result.ok.injEq] at hr2
      right
      rw [hr2.1]
      rfl
theorem wpList_append_str {ops : Array Oper} {rest : List Oper} {o : Oper} {a : Act} {w : World} {Q : Exit → Act → World → Prop} (hgd : o.guard = none) (sl x : Operand) (t u : TypeId)
    (ho : o.op = .call { callee := .builtin .append, args := #[sl, x], argTypes := #[t, u] })
    (base : Nat) (e : TypeId) (i : TypeInfo) (ht : P.underlying t = some (.slice e)) (hu : P.underlying u = some .string) (hi : P.info? e = some i) (hz : i.zero = some (.int .u8 0))
    (hsize : i.size = 1) (hby : i.bytes = 1) (v : Value) (n : Nat) (xs : List Value) (hs : a.eval sl = v) (hown : w.ownsRow base e 1 v n xs) (hn0 : 0 < n) (s : ByteArray) (hx : a.eval x = .string s) (hn : n + s.size ≤ 1000000000) (hbase : base ≤ w.heap.size)
    (h : ∀ v' w', w'.ownsRow base e 1 v' (n + s.size) (xs ++ Lib.strCells s) → w.grownBy w' v.ownBlock → (v'.ownBlock = v.ownBlock ∨ v'.ownBlock = some w.heap.size) → wpList P ops Q rest (a.put o.dst v') w') : wpList P ops Q (o :: rest) a w := by
  refine wpList_plain hgd fun K hK => ?_
  obtain ⟨v', w', hr, h2, h3, h4⟩ := run_append_str (P := P) w base t u o.type e i ht hu hi hz hsize hby v n xs hown hn0 s hn hbase
  unfold Oper.wp execOp
  simp only [ho, resolve, invoke, builtin, Sem.run_bind, Sem.run_pure, Result.andThen_ok, List.map_toArray, List.map_cons, List.map_nil, hs, hx, hr]
  exact hK _ _ (h v' w' h2 h3 h4)
end

/-- The blocks that a writer's calls may turn. -/
def WF (p : Nat) (v : Value) (k : Nat) : Prop := k = p ∨ v.ownBlock = some k

set_option maxHeartbeats 4000000 in
theorem put2_any (w : World) (B p : Nat) (v : Value) (b : List UInt8) (h : WriterAt w B p v b) (n size : Nat) (hn : n < 18446744073709551616) (hs : size ≤ 8) (hbl : b.length ≤ 100000000) :
    Calls Try.prog 73 #[.pointer (some ⟨p, 0, none⟩), .int .u64 (n : Int), .int .i64 (size : Int)] w fun e w' => ∃ v', e = .returned (.tuple #[]) ∧ WriterAt w' B p v' (b ++ putPre n size size) ∧ Upd (WF p v) w w' ∧ (∀ k, v'.ownBlock = some k → v.ownBlock = some k ∨ w.heap.size ≤ k) := by
  have H := Lib.hid h
  clear h
  go_enter Try.func73, Try.ntmps73
  go_wp2
  refine wp_scope_loop 0 (fun a' w' => ∃ (i j : Nat) (vc : Value) (u8 u9 u10 u11 u12 u13 u14 u15 u16 u17 u18 u19 u20 u21 u22 u23 u24 u25 : Value),
    a' = { tmps := #[.pointer (some ⟨p, 0, none⟩), .int .u64 (n : Int), .int .i64 (size : Int), undef, undef, undef, .int .i64 (j : Int), .int .i64 (size : Int), u8, u9, u10, u11, u12, u13, u14, u15, u16, u17, u18, u19, u20, u21, u22, u23, u24, u25], defers := [] } ∧
    i + j = size ∧ WriterAt w' B p vc (b ++ putPre n size i) ∧ Upd (WF p v) w w' ∧ (∀ k, vc.ownBlock = some k → v.ownBlock = some k ∨ w.heap.size ≤ k)) (fun a' _ => (intOf (a'.tmps.getD 6 undef)).toNat) rfl ?pass ?first
  case first =>
    intro hrest
    go_wp2
    go_step3
    rename_i hK
    refine hK _ _ (hrest _ _ ?_)
    refine ⟨0, size, v, _, _, _, _, _, _, _, _, _, _, _, _, _, _, _, _, _, _, rfl, by omega, ?_, Upd.refl _ _, fun k h => .inl h⟩
    rw [show putPre n size 0 = [] from rfl, List.append_nil]
    exact H.out
  case pass =>
    rintro a' w' ⟨i, j, vc, u8, u9, u10, u11, u12, u13, u14, u15, u16, u17, u18, u19, u20, u21, u22, u23, u24, u25, rfl, hij, hw, hb, hvc⟩
    clear H
    have H := Lib.hid hw
    have HB := Lib.hid hb
    have HVC := Lib.hid hvc
    clear hw hb hvc
    by_cases h0 : j = 0
    · subst h0
      have hi : i = size := by omega
      subst hi
      go_wp2
      simp only [Exit.jump]
      refine bodyPost_ret (results_none rfl _ _ _) rfl ?_
      exact ⟨vc, rfl, H.out, HB.out, HVC.out⟩
    · obtain ⟨j, rfl⟩ : ∃ m, j = m + 1 := ⟨j - 1, by omega⟩
      have h8 : size - 1 - i = j := by omega
      obtain ⟨z, hz⟩ : ∃ z : Int, z = 8 * (j : Int) := ⟨_, rfl⟩
      have hB : (n : Int) / 2 ^ z.toNat % 256 = un8 (byteAt n (8 * j)) := by
        rw [byteAt_un8, show z.toNat = 8 * j by omega, Int.natCast_emod, Int.natCast_ediv, Int.natCast_pow]
        rfl
      have hB2 : IntKind.u8.wrap ((n : Int) / 2 ^ z.toNat) = un8 (byteAt n (8 * j)) := by rw [IntKind.wrap_u8]; exact hB
      have hz0 : 0 ≤ z := by omega
      have hz1 : z ≤ 56 := by omega
      have hw8 : IntKind.i64.wrap (8 * (j : Int)) = z := by rw [IntKind.wrap_i64]; omega
      clear hz
      have hj0 : (0 : Int) ≤ (j : Int) := by omega
      have hj7 : (j : Int) ≤ 7 := by omega
      have hn0 : (0 : Int) ≤ (n : Int) := by omega
      have hn1 : (n : Int) ≤ 18446744073709551615 := by omega
      have HN := Lib.hid hn
      clear hn
      have HS := Lib.hid (putPre_snoc n size i)
      rw [h8] at HS
      have HIJ := Lib.hid hij
      have HLB := Lib.hid (putPre_length n size i)
      clear h0 hij h8
      generalize putPre n size i = pre at *
      generalize byteAt n (8 * j) = bb at *
      obtain ⟨A0, c0, rfl, _⟩ := own_slice H.out.own
      have h0 := H.out.c0
      have hlt := H.out.lt
      have hy : (b ++ pre).length ≤ 100000100 := by have := HLB.out; have := HIJ.out; rw [List.length_append]; omega
      have HY := Lib.hid (show (b ++ pre) ++ [bb] = b ++ (pre ++ [bb]) by simp)
      generalize b ++ pre = y at *
      go_upto_region 3 with fail
      go_region_law (refine step_append_any rfl (.tmp 16) (.tmp 22) 25 rfl B 5 (.int .u8 0) 1 1 Try.underlying25 info8 rfl (by omega) (by omega) (.slice A0 y.length c0) _ _ rfl (World.ownsRow.alloc (w := w'.drew) H.out.own _) _ 1 _ (bv [bb]) rfl rfl (RC_newL w'.drew (bv [bb]) 5) (bv_one _) (by omega) (by have := H.out.base; simp; omega) ?_; intro v1 w1 ho1 hg1 hat1; have hu : Upd (fun k => (Value.slice A0 y.length c0).ownBlock = some k) w' w1 := (((Upd.refl _ w').drew).alloc _).grown hg1 (fun k hk _ => hk); have hw1 := (hu.block p hlt (fun e => H.out.ne e)).trans H.out.at_; have k0 : w1.cell? ⟨p, 0, none⟩ = some (.slice A0 y.length c0) := (cell_of_row w1 p 0 _ _ _ hw1).trans rfl; have kf : w1.frozen? ⟨p, 0, none⟩ = false := frozen_of_row w1 p 0 _ _ hw1; obtain ⟨A1, c1, rfl, _⟩ := own_slice ho1)
      all_goals
        go_wp2_with fail
        go_step3
        have hne : (Value.slice A1 (y.length + 1) c1).ownBlock ≠ some p := by
          intro e
          rcases hat1 with h | h
          · exact H.out.ne (h ▸ e)
          · rw [h] at e; simp at e; omega
        have hb1 : Upd (WF p v) w (w1.setCell ⟨p, 0, none⟩ (.slice A1 (y.length + 1) c1)) := by
          refine (HB.out.trans hu (fun k hk h => ?_)).setCell (fun _ => .inl rfl) _
          rcases HVC.out k h with h | h
          · exact .inr h
          · omega
        have hvc1 : ∀ k, (Value.slice A1 (y.length + 1) c1).ownBlock = some k → v.ownBlock = some k ∨ w.heap.size ≤ k := by
          intro k hk
          rcases hat1 with h | h
          · exact HVC.out k (h ▸ hk)
          · rw [h] at hk
            have := HB.out.size
            simp at hk
            right
            omega
        refine ⟨rfl, ⟨i + 1, j, _, _, _, _, _, _, _, _, _, _, _, _, _, _, _, _, _, _, _, rfl, by have := HIJ.out; omega, ⟨?_, ?_, hne, H.out.base⟩, hb1, hvc1⟩, by simp [intOf]⟩
        · rw [setCell_at hw1]; rfl
        · rw [HS.out, ← HY.out, List.length_append, bv_append]
          exact own_setCell ho1 hne _

set_option maxHeartbeats 1000000 in
theorem writerFour2_any (w : World) (B p : Nat) (v : Value) (b : List UInt8) (h : WriterAt w B p v b) (n : Nat) (hn : n < 9223372036854775808) (hbl : b.length ≤ 100000000) :
    Calls Try.prog 74 #[.pointer (some ⟨p, 0, none⟩), .int .i64 (n : Int)] w fun e w' => ∃ v', e = .returned (.tuple #[]) ∧ WriterAt w' B p v' (b ++ be4n n) ∧ Upd (WF p v) w w' ∧ (∀ k, v'.ownBlock = some k → v.ownBlock = some k ∨ w.heap.size ≤ k) := by
  have H := Lib.hid h
  have hn0 : (0 : Int) ≤ (n : Int) := by omega
  have hn1 : (n : Int) < 9223372036854775808 := by omega
  have HN := Lib.hid hn
  clear h hn
  have hw : IntKind.u64.wrap (n : Int) = (n : Int) := by rw [IntKind.wrap_u64]; omega
  go_enter Try.func74, Try.ntmps74
  go_wp2_with fail
  refine (put2_any _ B p v b H.out n 4 (by have := HN.out; omega) (by omega) hbl).mono ?_
  rintro e w1 ⟨v1, rfl, hw1, hb1, hv1⟩
  rw [putPre_four] at hw1
  have HW := Lib.hid hw1
  have HB := Lib.hid hb1
  have HV := Lib.hid hv1
  clear hw1 hb1 hv1
  go_wp2_with fail
  go_end0
  exact ⟨_, rfl, HW.out, HB.out, HV.out⟩

set_option maxHeartbeats 1000000 in
theorem writerByte2_any (w : World) (B p : Nat) (v : Value) (b : List UInt8) (h : WriterAt w B p v b) (x : UInt8) (hbl : b.length ≤ 100000000) :
    Calls Try.prog 47 #[.pointer (some ⟨p, 0, none⟩), .int .i64 (un8 x)] w fun e w' => ∃ v', e = .returned (.tuple #[]) ∧ WriterAt w' B p v' (b ++ [x]) ∧ Upd (WF p v) w w' ∧ (∀ k, v'.ownBlock = some k → v.ownBlock = some k ∨ w.heap.size ≤ k) := by
  have H := Lib.hid h
  have hr := un8_range x
  have hw : IntKind.u64.wrap (un8 x) = un8 x := by rw [IntKind.wrap_u64]; omega
  have hp : putPre x.toNat 1 1 = [x] := by
    simp [putPre, byteAt, List.range, List.range.loop]
  have HP := Lib.hid hp
  clear h hr hp
  go_enter Try.func47, Try.ntmps47
  go_wp2_with fail
  refine (put2_any _ B p v b H.out x.toNat 1 (by have := x.toNat_lt; omega) (by omega) hbl).mono ?_
  rw [HP.out]
  rintro e w1 ⟨v1, rfl, hw1, hb1, hv1⟩
  have HW := Lib.hid hw1
  have HB := Lib.hid hb1
  have HV := Lib.hid hv1
  clear hw1 hb1 hv1
  go_wp2_with fail
  go_end0
  exact ⟨_, rfl, HW.out, HB.out, HV.out⟩

set_option maxHeartbeats 4000000 in
theorem writerText2_any (w : World) (B p : Nat) (v : Value) (b : List UInt8) (h : WriterAt w B p v b) (s : List UInt8) (hs : s.length ≤ 1500000) (hbl : b.length ≤ 90000000) :
    Calls Try.prog 48 #[.pointer (some ⟨p, 0, none⟩), .string (strB s)] w fun e w' => ∃ v', e = .returned (.tuple #[]) ∧ WriterAt w' B p v' (b ++ (be4n s.length ++ s)) ∧ Upd (WF p v) w w' ∧ (∀ k, v'.ownBlock = some k → v.ownBlock = some k ∨ w.heap.size ≤ k) := by
  obtain ⟨i8, hi8, hz8, hs8, hb8⟩ := info8i
  have HI8 := Lib.hid hi8
  have HZ8 := Lib.hid hz8
  have HS8 := Lib.hid hs8
  have HB8 := Lib.hid hb8
  clear hi8 hz8 hs8 hb8
  have H := Lib.hid h
  have hsz : (strB s).size = s.length := strB_size s
  have hcl : Lib.strCells (strB s) = bv s := by rw [strCells_bv, strB_toList]
  obtain ⟨sx, esx⟩ : ∃ sx, sx = strB s := ⟨_, rfl⟩
  rw [← esx] at hsz hcl ⊢
  have HSZ := Lib.hid hsz
  have HCL := Lib.hid hcl
  have HSL := Lib.hid hs
  have HBL := Lib.hid hbl
  clear h hsz hcl esx hs hbl
  go_enter Try.func48, Try.ntmps48
  go_wp2_with fail
  refine (writerFour2_any _ B p v b H.out sx.size (by have := HSZ.out; have := HSL.out; omega) (by have := HBL.out; omega)).mono ?_
  rw [HSZ.out]
  rintro e w1 ⟨v1, rfl, hw1, hb1, hv1⟩
  have k0 := hw1.c0
  have hl4 : (b ++ be4n s.length).length = b.length + 4 := by rw [List.length_append, be4n_length]
  have W1 := Lib.hid hw1
  have B1 := Lib.hid hb1
  have HL4 := Lib.hid hl4
  have HV1 := Lib.hid hv1
  clear hw1 hb1 hl4 hv1
  go_wp2_with (at_builtin; refine wpList_append_str rfl (.tmp 12) (.tmp 13) 25 9 rfl B 5 i8 Try.underlying25 Try.underlying9 HI8.out HZ8.out HS8.out HB8.out v1 _ _ rfl W1.out.own ?c0 sx rfl ?c1 ?c3 ?_)
  case c0 => have := HL4.out; omega
  case c1 => have := HL4.out; have := HSZ.out; have := HSL.out; have := HBL.out; omega
  case c3 => have := W1.out.base; have := W1.out.lt; omega
  intro v2 w2 ho hg hat
  have ho' : w2.ownsRow B 5 1 v2 (b ++ (be4n s.length ++ s)).length (bv (b ++ (be4n s.length ++ s))) := by
    rw [HCL.out, HSZ.out, ← bv_append, List.append_assoc] at ho
    rw [show (b ++ (be4n s.length ++ s)).length = b.length + (be4n s.length).length + s.length by simp only [List.length_append]; omega]
    exact ho
  have hw2 : w2.heap[p]? = some (.cells #[v1] 131 (0, 0)) := (hg.block p W1.out.lt (fun e => W1.out.ne e.symm)).trans W1.out.at_
  have hne : v2.ownBlock ≠ some p := by
    intro e
    rcases hat with h | h
    · exact W1.out.ne (h ▸ e)
    · rw [h] at e
      cases e
      exact absurd W1.out.lt (Nat.lt_irrefl _)
  have kp : w2.cell? ⟨p, 0, none⟩ = some v1 := (cell_of_row w2 p 0 _ _ _ hw2).trans rfl
  have kf : w2.frozen? ⟨p, 0, none⟩ = false := frozen_of_row w2 p 0 _ _ hw2
  have HO := Lib.hid ho'
  have HW2 := Lib.hid hw2
  have HNE := Lib.hid hne
  have HB2 := Lib.hid (B1.out.trans ((Upd.refl (fun k => v1.ownBlock = some k) w1).grown hg (fun k hk _ => hk)) (fun k hk h => by
    rcases HV1.out k h with h | h
    · exact .inr h
    · omega))
  have HV2 := Lib.hid (show ∀ k, v2.ownBlock = some k → v.ownBlock = some k ∨ w.heap.size ≤ k from fun k hk => by
    rcases hat with h | h
    · exact HV1.out k (h ▸ hk)
    · rw [h] at hk
      cases hk
      exact .inr B1.out.size)
  obtain ⟨A2, c2, rfl, _⟩ := own_slice ho'
  clear ho ho' hg hw2 hne hat
  go_wp2_with fail
  go_end0
  refine ⟨_, rfl, ⟨?_, own_setCell HO.out HNE.out _, HNE.out, W1.out.base⟩, HB2.out.setCell (fun _ => .inl rfl) _, HV2.out⟩
  rw [setCell_at HW2.out, List.length_append, List.length_append]
  rfl

set_option maxHeartbeats 4000000 in
theorem take2_any (w : World) (B p : Nat) (v : Value) (l : List UInt8) (a : Nat) (h : ReaderAt w B p v l a) (n : Nat) (h0 : 0 < n) (hn : a + n ≤ l.length) (hl : l.length ≤ 100000000) :
    Calls Try.prog 71 #[.pointer (some ⟨p, 0, none⟩), .int .i64 (n : Int)] w fun e w' => ∃ A c, e = .returned (.slice A n c) ∧ RB w' A ((l.drop a).take n) ∧ ReaderAt w' B p v l (a + n) ∧ Upd (fun k => k = p) w w' := by
  obtain ⟨g, c0, rfl, hB, hc⟩ := own_form h.own (by omega)
  have k0 := h.c0
  have k1 := h.c1
  have k2 := h.c2
  have f1 := h.f0 1
  have hlt := h.lt
  have H := Lib.hid h
  clear h
  have hne : ¬ (c0 = a) := by omega
  have hw1 : IntKind.i64.wrap ((l.length : Int) - (a : Int)) = (l.length : Int) - (a : Int) := by rw [IntKind.wrap_i64]; omega
  have hw2 : ¬ ((l.length : Int) - (a : Int) < (n : Int)) := by omega
  go_enter Try.func71, Try.ntmps71
  go_wp2_with fail
  go_region
  go_wp2_with fail
  go_region
  go_wp2_with fail
  go_ret
  have hb1 : Upd (fun k => k = p) w (w.setCell ⟨p, 1, none⟩ (.int .i64 ((a : Int) + (n : Int)))) := (Upd.refl (fun k => k = p) w).setCell (fun _ => rfl) _
  refine ⟨some ⟨g, a, none⟩, c0 - a, (show Ending.returned (.slice (some ⟨g, a, none⟩) (a + n - a) (c0 - a)) = _ by rw [Nat.add_sub_cancel_left]), ?_, ⟨?_, own_setCell H.out.own H.out.ne _, H.out.ne, H.out.base⟩, hb1.drew.drew⟩
  · intro _
    refine ⟨_, rfl, fun j hj => ?_⟩
    have hj' : a + j < l.length := by simp at hj; omega
    have h1 := own_byte (own_setCell (j := 1) H.out.own H.out.ne (.int .i64 ((a : Int) + (n : Int)))) (a + j) hj'
    rw [add_off]
    refine Eq.trans ?_ (h1.trans ?_)
    · rfl
    · simp
  · exact (setCell_at H.out.at_ _).trans rfl

section
set_option maxHeartbeats 4000000 in
theorem get2_any (w : World) (B p : Nat) (v : Value) (l : List UInt8) (a : Nat) (h : ReaderAt w B p v l a) (n : Nat) (h0 : 0 < n) (hn8 : n ≤ 7) (hn : a + n ≤ l.length) (hl : l.length ≤ 100000000) :
    Calls Try.prog 70 #[.pointer (some ⟨p, 0, none⟩), .int .i64 (n : Int)] w fun e w' => e = .returned (.int .u64 (numOf ((l.drop a).take n) : Nat)) ∧ ReaderAt w' B p v l (a + n) ∧ Upd (fun k => k = p) w w' := by
  go_enter Try.func70, Try.ntmps70
  have hx : ((l.drop a).take n).length = n := by simp; omega
  obtain ⟨x, ex⟩ : ∃ x, x = (l.drop a).take n := ⟨_, rfl⟩
  rw [← ex] at hx ⊢
  go_wp2_with fail
  refine wp_scope_loop 0 (fun a' w' => ∃ (i c y : Nat) (A : Option Addr) (u8 u9 u10 u11 u12 u13 u14 u15 u16 u17 u18 u19 u20 u21 u22 u23 u24 u25 : Value),
    a' = { tmps := #[.pointer (some ⟨p, 0, none⟩), .int .i64 (n : Int), undef, undef, .int .u64 0, .int .u64 (y : Int), .slice A n c, .int .i64 (i : Int), u8, u9, u10, u11, u12, u13, u14, u15, u16, u17, u18, u19, u20, u21, u22, u23, u24, u25], defers := [] } ∧
    y = numOf (x.take i) ∧ i ≤ n ∧ RB w' A x ∧ ReaderAt w' B p v l (a + n) ∧ Upd (fun k => k = p) w w') (fun a' _ => ((n : Int) - intOf (a'.tmps.getD 7 undef)).toNat) rfl ?pass ?first
  case first =>
    intro hrest
    go_wp2_with fail
    refine (take2_any w B p v l a h n h0 hn hl).mono ?_
    rintro e w1 ⟨A, c, rfl, hr, hw, hb⟩
    rw [← ex] at hr
    have H := Lib.hid hw
    have HR := Lib.hid hr
    have HB := Lib.hid hb
    clear h hw hr hb
    go_wp2_with fail
    go_step3
    rename_i hK
    refine hK _ _ (hrest _ _ ?_)
    exact ⟨0, _, 0, _, _, _, _, _, _, _, _, _, _, _, _, _, _, _, _, _, _, _, rfl, by simp [numOf], by omega, HR.out, H.out, HB.out⟩
  case pass =>
    rintro a' w' ⟨i, c, y, A, u8, u9, u10, u11, u12, u13, u14, u15, u16, u17, u18, u19, u20, u21, u22, u23, u24, u25, rfl, hy, hi, hr, hw, hb⟩
    have H := Lib.hid hw
    have HR := Lib.hid hr
    have HB := Lib.hid hb
    clear h hw hr hb ex
    by_cases hlt : i < n
    · obtain ⟨b, o, rfl, hc⟩ := HR.out.parts (by omega)
      have k1 := hc i (by omega)
      have hs : numOf (x.take (i + 1)) = numOf (x.take i) * 256 + x[i].toNat := by
        rw [List.take_succ_eq_append_getElem (by omega), numOf_snoc]
      have hb1 : numOf (x.take i) < 72057594037927936 := by
        have h1 := numOf_lt (x.take i)
        have h2 : 256 ^ (x.take i).length ≤ 256 ^ 7 := Nat.pow_le_pow_right (by omega) (by rw [List.length_take]; omega)
        have h3 : 256 ^ 7 = 72057594037927936 := by decide
        omega
      rw [← hy] at hs hb1
      have ho := or64_low y x[i] hb1
      rw [← hs, Int.natCast_mul] at ho
      have HS := Lib.hid hs
      obtain ⟨y1, ey1⟩ : ∃ y1, y1 = numOf (x.take (i + 1)) := ⟨_, rfl⟩
      rw [← ey1] at ho
      have EY := Lib.hid ey1
      have hwb := un8_range x[i]
      have how : IntKind.u64.wrap (un8 x[i]) = un8 x[i] := by rw [IntKind.wrap_u64]; omega
      generalize x[i] = bb at *
      have hw1 : IntKind.u64.wrap ((y : Int) * 256) = (y : Int) * 256 := by rw [IntKind.wrap_u64]; omega
      clear hc hs hy hb1 ey1 hwb
      have ho' : bits .or .u64 ((y : Int) * 256) (un8 bb) = (y1 : Int) := ho
      clear ho
      go_wp2_with fail
      go_step3
      refine ⟨rfl, ⟨i + 1, _, y1, _, _, _, _, _, _, _, _, _, _, _, _, _, _, _, _, _, _, _, rfl, EY.out, by omega, HR.out, H.out, HB.out⟩, by simp [intOf]; omega⟩
    · obtain rfl : i = n := by omega
      rw [show x.take i = x from List.take_of_length_le (by omega)] at hy
      have HYY := Lib.hid hy
      clear hy
      go_wp2_with fail
      simp only [Exit.jump]
      go_ret
      exact ⟨by rw [← HYY.out]; rfl, H.out, HB.out⟩
end

set_option maxHeartbeats 1000000 in
theorem readerFour2_any (w : World) (B p : Nat) (v : Value) (l : List UInt8) (a : Nat) (h : ReaderAt w B p v l a) (hn : a + 4 ≤ l.length) (hl : l.length ≤ 100000000) :
    Calls Try.prog 83 #[.pointer (some ⟨p, 0, none⟩)] w fun e w' => e = .returned (.int .i64 (four (l.drop a) : Nat)) ∧ ReaderAt w' B p v l (a + 4) ∧ Upd (fun k => k = p) w w' := by
  have hf := numOf_four (l.drop a) (by simp; omega)
  have hlt := four_lt (l.drop a)
  rw [← hf] at hlt ⊢
  obtain ⟨y, ey⟩ : ∃ y, y = numOf ((l.drop a).take 4) := ⟨_, rfl⟩
  rw [← ey] at hlt ⊢
  go_enter Try.func83, Try.ntmps83
  go_wp2_with fail
  refine (get2_any w B p v l a h 4 (by omega) (by omega) hn hl).mono ?_
  rw [← ey]
  rintro e w1 ⟨rfl, hw, hb⟩
  have H := Lib.hid hw
  have HB := Lib.hid hb
  clear hw hb h hf ey
  have hw : IntKind.i64.wrap (y : Int) = (y : Int) := by rw [IntKind.wrap_i64]; omega
  clear hlt
  go_wp2_with fail
  go_ret
  exact ⟨rfl, H.out, HB.out⟩


end Go.Proofs.Ytjakhemolecbnaa
end

/-
  A chain as bytes: Encode.
-/
section
set_option linter.unusedVariables false
set_option linter.unusedSimpArgs false
namespace Go.Proofs.Ytjakhemolecbnaa
open Go.RowKit

/-- The bytes of a chain. -/
def encL (M : List (List UInt8 × List UInt8)) : List UInt8 := M.flatMap fun x => be4n x.1.length ++ x.1 ++ x.2
def encOf (M : List (List UInt8 × List UInt8)) : List UInt8 := be4n M.length ++ encL M
theorem encL_snoc (M : List (List UInt8 × List UInt8)) (x : List UInt8 × List UInt8) : encL (M ++ [x]) = encL M ++ (be4n x.1.length ++ x.1 ++ x.2) := by simp [encL]
theorem encL_bound : ∀ (M : List (List UInt8 × List UInt8)), (∀ x ∈ M, x.2.length = 32) → (∀ x ∈ M, x.1.length ≤ 4000) → (encL M).length ≤ 4036 * M.length
  | [], _, _ => by simp [encL]
  | x :: M, h1, h2 => by
    have h := encL_bound M (fun y hy => h1 y (by simp [hy])) (fun y hy => h2 y (by simp [hy]))
    have e1 := h1 x (by simp)
    have e2 := h2 x (by simp)
    rw [encL, List.flatMap_cons, List.length_append, List.length_append, List.length_append, be4n_length, e1, List.length_cons]
    rw [encL] at h
    omega

set_option maxRecDepth 100000 in
theorem idx32 (h : List UInt8) (hh : h.length = 32) (i : Nat) (hi : i < 32) (w : World) : (Instr.index 86 (.agg (bv h).toArray) (.int .i64 (i : Int))).run Try.prog w = .ok (.int .u8 (un8 (bt h i))) w := by
  rw [← range_bt h hh]
  generalize bt h = f
  have e : bt ((List.range 32).map f) i = f i := by simp [bt, List.getD_eq_getElem?_getD, hi]
  rw [e]
  match i, hi with
  | 0, _ => rfl
  | 1, _ => rfl
  | 2, _ => rfl
  | 3, _ => rfl
  | 4, _ => rfl
  | 5, _ => rfl
  | 6, _ => rfl
  | 7, _ => rfl
  | 8, _ => rfl
  | 9, _ => rfl
  | 10, _ => rfl
  | 11, _ => rfl
  | 12, _ => rfl
  | 13, _ => rfl
  | 14, _ => rfl
  | 15, _ => rfl
  | 16, _ => rfl
  | 17, _ => rfl
  | 18, _ => rfl
  | 19, _ => rfl
  | 20, _ => rfl
  | 21, _ => rfl
  | 22, _ => rfl
  | 23, _ => rfl
  | 24, _ => rfl
  | 25, _ => rfl
  | 26, _ => rfl
  | 27, _ => rfl
  | 28, _ => rfl
  | 29, _ => rfl
  | 30, _ => rfl
  | 31, _ => rfl
  | n + 32, h => exact absurd h (by omega)

end Go.Proofs.Ytjakhemolecbnaa
end

/-
  The walks of a reader, where all is there.
-/
section
set_option linter.unusedVariables false
set_option linter.unusedSimpArgs false
namespace Go.Proofs.Ytjakhemolecbnaa
open Go.RowKit

set_option maxHeartbeats 4000000 in
theorem take3_any (w : World) (B p : Nat) (v : Value) (l : List UInt8) (a : Nat) (h : ReaderAt w B p v l a) (n : Nat) (h0 : a < l.length) (hn : a + n ≤ l.length) (hl : l.length ≤ 100000000) :
    Calls Try.prog 71 #[.pointer (some ⟨p, 0, none⟩), .int .i64 (n : Int)] w fun e w' => ∃ A c, e = .returned (.slice A n c) ∧ RB w' A ((l.drop a).take n) ∧ ReaderAt w' B p v l (a + n) ∧ Upd (fun k => k = p) w w' := by
  obtain ⟨g, c0, rfl, hB, hc⟩ := own_form h.own (by omega)
  have k0 := h.c0
  have k1 := h.c1
  have k2 := h.c2
  have f1 := h.f0 1
  have hlt := h.lt
  have H := Lib.hid h
  clear h
  have hne : ¬ (c0 = a) := by omega
  have hw1 : IntKind.i64.wrap ((l.length : Int) - (a : Int)) = (l.length : Int) - (a : Int) := by rw [IntKind.wrap_i64]; omega
  have hw2 : ¬ ((l.length : Int) - (a : Int) < (n : Int)) := by omega
  go_enter Try.func71, Try.ntmps71
  go_wp2_with fail
  go_region
  go_wp2_with fail
  go_region
  go_wp2_with fail
  go_ret
  have hb1 : Upd (fun k => k = p) w (w.setCell ⟨p, 1, none⟩ (.int .i64 ((a : Int) + (n : Int)))) := (Upd.refl (fun k => k = p) w).setCell (fun _ => rfl) _
  refine ⟨some ⟨g, a, none⟩, c0 - a, (show Ending.returned (.slice (some ⟨g, a, none⟩) (a + n - a) (c0 - a)) = _ by rw [Nat.add_sub_cancel_left]), ?_, ⟨?_, own_setCell H.out.own H.out.ne _, H.out.ne, H.out.base⟩, hb1.drew.drew⟩
  · intro _
    refine ⟨_, rfl, fun j hj => ?_⟩
    have hj' : a + j < l.length := by simp at hj; omega
    have h1 := own_byte (own_setCell (j := 1) H.out.own H.out.ne (.int .i64 ((a : Int) + (n : Int)))) (a + j) hj'
    rw [add_off]
    refine Eq.trans ?_ (h1.trans ?_)
    · rfl
    · simp
  · exact (setCell_at H.out.at_ _).trans rfl


set_option maxHeartbeats 1000000 in
theorem readerByte2_any (w : World) (B p : Nat) (v : Value) (l : List UInt8) (a : Nat) (h : ReaderAt w B p v l a) (hn : a + 1 ≤ l.length) (hl : l.length ≤ 100000000) :
    Calls Try.prog 38 #[.pointer (some ⟨p, 0, none⟩)] w fun e w' => e = .returned (.int .i64 (un8 (bt l a))) ∧ ReaderAt w' B p v l (a + 1) ∧ Upd (fun k => k = p) w w' := by
  have e1 : (l.drop a).take 1 = [bt l a] := by
    rw [List.drop_eq_getElem_cons (by omega), List.take_succ_cons, List.take_zero]
    simp [bt, List.getD_eq_getElem?_getD, List.getElem?_eq_getElem (show a < l.length by omega)]
  have e2 : ((numOf ((l.drop a).take 1) : Nat) : Int) = un8 (bt l a) := by rw [e1]; simp [numOf, un8]
  have hx := un8_range (bt l a)
  generalize bt l a = x at *
  have E2 := Lib.hid e2
  clear e1 e2
  go_enter Try.func38, Try.ntmps38
  go_wp2_with fail
  refine (get2_any w B p v l a h 1 (by omega) (by omega) hn hl).mono ?_
  rw [E2.out]
  rintro e w1 ⟨rfl, hw, hb⟩
  have H := Lib.hid hw
  have HB := Lib.hid hb
  clear hw hb h
  have hw : IntKind.i64.wrap (un8 x) = un8 x := by rw [IntKind.wrap_i64]; omega
  clear hx
  go_wp2_with fail
  go_ret
  exact ⟨rfl, H.out, HB.out⟩

set_option maxHeartbeats 1000000 in
theorem readerCount2_any (w : World) (B p : Nat) (v : Value) (l : List UInt8) (a : Nat) (h : ReaderAt w B p v l a) (hn : a + 4 ≤ l.length) (hl : l.length ≤ 100000000) (most m : Nat) (hm : four (l.drop a) = m) (hmm : m ≤ most) (hmo : most ≤ 100000) :
    Calls Try.prog 66 #[.pointer (some ⟨p, 0, none⟩), .int .i64 (most : Int)] w fun e w' => e = .returned (.int .i64 (m : Int)) ∧ ReaderAt w' B p v l (a + 4) ∧ Upd (fun k => k = p) w w' := by
  have H := Lib.hid h
  have k1 := h.c1
  have HM := Lib.hid hm
  clear h hm
  go_enter Try.func66, Try.ntmps66
  go_wp2_with fail
  refine (readerFour2_any w B p v l a H.out hn hl).mono ?_
  rw [HM.out]
  rintro e w1 ⟨rfl, hw, hb⟩
  have k2 := hw.c2
  have H1 := Lib.hid hw
  have HB := Lib.hid hb
  clear hw hb
  have hmx : max (most : Int) 0 = (most : Int) := by omega
  have hgt : ¬ ((most : Int) < (m : Int)) := by omega
  go_wp2_with fail
  go_ret
  exact ⟨rfl, H1.out, HB.out⟩

set_option maxHeartbeats 1000000 in
theorem readerText2_any (w : World) (B p : Nat) (v : Value) (l : List UInt8) (a : Nat) (h : ReaderAt w B p v l a) (hl : l.length ≤ 100000000) (most m : Nat) (hm : four (l.drop a) = m) (hmm : m ≤ most) (hmo : most ≤ 100000) (hn : a + 4 + m < l.length) :
    Calls Try.prog 39 #[.pointer (some ⟨p, 0, none⟩), .int .i64 (most : Int)] w fun e w' => e = .returned (.string (strB ((l.drop (a + 4)).take m))) ∧ ReaderAt w' B p v l (a + 4 + m) ∧ Upd (fun k => k = p) w w' := by
  have H := Lib.hid h
  clear h
  have hxl : ((l.drop (a + 4)).take m).length = m := by rw [List.length_take, List.length_drop]; omega
  obtain ⟨x, ex⟩ : ∃ x, x = (l.drop (a + 4)).take m := ⟨_, rfl⟩
  rw [← ex] at hxl ⊢
  have EX := Lib.hid ex
  have HXL := Lib.hid hxl
  clear ex hxl
  go_enter Try.func39, Try.ntmps39
  go_wp2_with fail
  refine (readerCount2_any w B p v l a H.out (by omega) hl most m hm hmm hmo).mono ?_
  rintro e w1 ⟨rfl, hw, hb⟩
  have H1 := Lib.hid hw
  have HB1 := Lib.hid hb
  clear hw hb
  go_wp2_with fail
  refine (take3_any w1 B p v l (a + 4) H1.out m (by omega) (by omega) hl).mono ?_
  rw [← EX.out]
  rintro e w2 ⟨A, c, rfl, hr, hw, hb⟩
  have hst := run_string_RB (P := Try.prog) w2 25 9 5 Try.underlying25 Try.underlying5 Try.underlying9 A m c x HXL.out hr
  have H2 := Lib.hid hw
  have HB2 := Lib.hid (HB1.out.trans hb (fun _ _ h => h))
  clear hw hb hr
  go_wp2_with fail
  go_ret
  exact ⟨rfl, H2.out, HB2.out⟩

set_option maxHeartbeats 1000000 in
theorem readerLeft2_any (w : World) (B p : Nat) (v : Value) (l : List UInt8) (a : Nat) (h : ReaderAt w B p v l a) (hn : a ≤ l.length) (hl : l.length ≤ 100000000) :
    Calls Try.prog 67 #[.pointer (some ⟨p, 0, none⟩)] w fun e w' => e = .returned (.int .i64 ((l.length - a : Nat) : Int)) ∧ ReaderAt w' B p v l a ∧ Upd (fun k => k = p) w w' := by
  obtain ⟨A, c, rfl, _⟩ := own_slice h.own
  have k0 := h.c0
  have k1 := h.c1
  have k2 := h.c2
  have H := Lib.hid h
  clear h
  have hw1 : IntKind.i64.wrap ((l.length : Int) - (a : Int)) = ((l.length - a : Nat) : Int) := by rw [IntKind.wrap_i64]; omega
  have hsub : (l.length : Int) - (a : Int) = ((l.length - a : Nat) : Int) := by omega
  have HSUB := Lib.hid hsub
  clear hsub
  go_enter Try.func67, Try.ntmps67
  go_wp2_with fail
  go_region
  all_goals
    go_wp2_with fail
    go_ret
    refine ⟨?_, H.out.drew, (Upd.refl _ _).drew⟩
    first | rfl | rw [HSUB.out]

set_option maxHeartbeats 1000000 in
theorem readerEnd2_any (w : World) (B p : Nat) (v : Value) (l : List UInt8) (a : Nat) (h : ReaderAt w B p v l a) (hn : a = l.length) (hl : l.length ≤ 100000000) :
    Calls Try.prog 40 #[.pointer (some ⟨p, 0, none⟩)] w fun e w' => e = .returned (.tuple #[.int .i64 0, .int .i64 0]) ∧ ReaderAt w' B p v l a ∧ Upd (fun k => k = p) w w' := by
  obtain ⟨A, c, rfl, _⟩ := own_slice h.own
  have k0 := h.c0
  have k1 := h.c1
  have k2 := h.c2
  have H := Lib.hid h
  clear h
  have hlt : ¬ ((a : Int) < (l.length : Int)) := by omega
  go_enter Try.func40, Try.ntmps40
  go_wp2_with fail
  go_region
  all_goals
    go_wp2_with fail
    go_ret2
    exact ⟨rfl, H.out.drew, (Upd.refl _ _).drew⟩

end Go.Proofs.Ytjakhemolecbnaa
end

/-
  The walk of Prefix, of the chain.
-/
section
set_option linter.unusedVariables false
set_option linter.unusedSimpArgs false
namespace Go.Proofs.Ytjakhemolecbnaa
open Go.RowKit

set_option maxRecDepth 100000 in
set_option maxHeartbeats 8000000 in
theorem prefix_any (A1 A2 : Option Addr) (n1 c1 n2 c2 : Nat) (M1 M2 : List (List UInt8 × List UInt8)) (w : World) (hl1 : M1.length = n1) (hl2 : M2.length = n2) (hn1 : n1 ≤ 100000) (hn2 : n2 ≤ 100000)
    (hh1 : ∀ x ∈ M1, x.2.length = 32) (hh2 : ∀ x ∈ M2, x.2.length = 32) (ht1 : ∀ x ∈ M1, x.1.length ≤ 1000000) (ht2 : ∀ x ∈ M2, x.1.length ≤ 1000000) (hr1 : RC w A1 (lv M1)) (hr2 : RC w A2 (lv M2)) :
    Calls Try.prog 60 #[.slice A1 n1 c1, .slice A2 n2 c2] w fun e w' => e = .returned (.bool (decide (M1.take (min n1 n2) = M2.take (min n1 n2)))) ∧ Below w.heap.size w w' := by
  subst hl1
  subst hl2
  obtain ⟨m, em⟩ : ∃ m, m = min M1.length M2.length := ⟨_, rfl⟩
  rw [← em]
  obtain ⟨R, eR⟩ : ∃ R, R = decide (M1.take m = M2.take m) := ⟨_, rfl⟩
  rw [← eR]
  have hm1 : m ≤ M1.length := by omega
  have hm2 : m ≤ M2.length := by omega
  have ER := Lib.hid eR
  have H1 := Lib.hid hr1
  have H2 := Lib.hid hr2
  have HH1 := Lib.hid hh1
  have HH2 := Lib.hid hh2
  have HT1 := Lib.hid ht1
  have HT2 := Lib.hid ht2
  have HM1 := Lib.hid hm1
  have HM2 := Lib.hid hm2
  have EM := Lib.hid em
  clear em eR hr1 hr2 hh1 hh2 ht1 ht2 hm1 hm2
  go_enter Try.func60, Try.ntmps60
  go_upto_block 0 with fail
  rw [show min (M1.length : Int) (M2.length : Int) = (m : Int) by have := EM.out; omega]
  go_wp2_with fail
  go_loopg [11] m (fun k s11 wr => ∃ i : Nat, i ≤ m ∧ k = m - i ∧ s11 = .int .i64 (i : Int) ∧ M1.take i = M2.take i ∧ Below w.heap.size w wr)
  case atStart => exact ⟨0, Nat.zero_le _, by omega, rfl, rfl, Below.refl _ _⟩
  case round =>
    obtain ⟨i, hi, hk, rfl, heq, hb⟩ := hrel
    have HK := Lib.hid hk
    have HB := Lib.hid hb
    have HEQ := Lib.hid heq
    clear hk hb heq
    by_cases hlt : i < m
    · have hlt1 : i < M1.length := by have := HM1.out; omega
      have hlt2 : i < M2.length := by have := HM2.out; omega
      obtain ⟨b1, o1, rfl, e1⟩ := H1.out.parts (by rw [lv_length M1 HH1.out]; omega)
      obtain ⟨b2, o2, rfl, e2⟩ := H2.out.parts (by rw [lv_length M2 HH2.out]; omega)
      have RG1 := Lib.hid (lk_range HH1.out (fun j u hj => cell_below HB.out.drew (e1 j u hj)) i hlt1)
      have RG2 := Lib.hid (lk_range HH2.out (fun j u hj => cell_below HB.out.drew (e2 j u hj)) i hlt2)
      have hx1 := HH1.out _ (List.getElem_mem hlt1)
      have hx2 := HH2.out _ (List.getElem_mem hlt2)
      have HQ := Lib.hid (fun W => eqLk M1[i] M2[i] (HT1.out _ (List.getElem_mem hlt1)) (HT2.out _ (List.getElem_mem hlt2)) hx1 hx2 W)
      have t1 := List.take_succ_eq_append_getElem hlt1
      have t2 := List.take_succ_eq_append_getElem hlt2
      obtain ⟨q, eq⟩ : ∃ q, q = decide (M1[i] = M2[i]) := ⟨_, rfl⟩
      rw [← eq] at HQ
      have HE1 := Lib.hid (show q = true → M1.take (i + 1) = M2.take (i + 1) by
        intro h
        rw [t1, t2, HEQ.out, of_decide_eq_true (eq.symm.trans h)])
      have HE2 := Lib.hid (show q = false → R = false by
        intro h
        rw [ER.out, decide_eq_false_iff_not]
        intro h2
        have h3 := of_decide_eq_false (eq.symm.trans h)
        apply h3
        have h4 := congrArg (fun l => l[i]?) h2
        simp only [List.getElem?_take, hlt, if_true, List.getElem?_eq_getElem hlt1, List.getElem?_eq_getElem hlt2, Option.some.injEq] at h4
        exact h4)
      have il1 : (Try.prog.info? 92).map (·.size) = some (lk M1[i]).length := by rw [lk_length _ hx1]; exact info33
      have il2 : (Try.prog.info? 92).map (·.size) = some (lk M2[i]).length := by rw [lk_length _ hx2]; exact info33
      obtain ⟨x1, ex1⟩ : ∃ x1, x1 = lk M1[i] := ⟨_, rfl⟩
      obtain ⟨x2, ex2⟩ : ∃ x2, x2 = lk M2[i] := ⟨_, rfl⟩
      rw [← ex1] at RG1 il1 HQ
      rw [← ex2] at RG2 il2 HQ
      have IL1 := Lib.hid il1
      have IL2 := Lib.hid il2
      have hi0 : (0 : Int) ≤ (i : Int) := by omega
      have hi1 : (i : Int) < (M1.length : Int) := by omega
      have hi2 : (i : Int) < (M2.length : Int) := by omega
      have HLT := Lib.hid hlt
      clear e1 e2 hx1 hx2 t1 t2 eq il1 il2 ex1 ex2 hlt hi hlt1 hlt2
      go_upto_region 4 with fail
      refine region_by (fun W => W = wr.drew) [(fun v _ => v = .slice (some ⟨b1, o1, none⟩) M1.length c1), (fun v _ => v = .int .i64 (i : Int)), (fun v _ => v = .pointer (some ⟨b1, o1 + i * 33, none⟩)), fun v _ => v = .agg x1.toArray, (fun v _ => v = .slice (some ⟨b2, o2, none⟩) M2.length c2), (fun v _ => v = .int .i64 (i : Int)), (fun v _ => v = .pointer (some ⟨b2, o2 + i * 33, none⟩)), fun v _ => v = .agg x2.toArray, fun v _ => v = .bool (!q)] (by kernel_rfl) (by kernel_rfl) (by kernel_rfl) rfl (rfl) ?ok4 ?fin4
      case ok4 =>
        refine ⟨?_, ?_, ?_, ?_, ?_, ?_, ?_, ?_, ?_, trivial⟩
        · intro a' w' K hI hd hq hK
          have e0 : a'.eval (.tmp 0) = .slice (some ⟨b1, o1, none⟩) M1.length c1 := (hq 0 (by kernel_rfl)).trans rfl
          clear hd hq
          refine op_value (wanted_free _ _ (by rfl)) (v := .slice (some ⟨b1, o1, none⟩) M1.length c1) (w'' := w') ?_ (hK _ _ hI (fun _ _ h => h) rfl)
          clear hK
          simp only [execOp, e0]
          have f0 : a'.tmps[0]?.getD undef = .slice (some ⟨b1, o1, none⟩) M1.length c1 := (Array.getD_eq_getD_getElem? ..).symm.trans e0
          clear e0
          first | rfl | (go_simp <;> exact IntWalk.i64_in _ (by omega))
        · intro a' w' K hI hd hq hK
          have e5 : a'.eval (.tmp 5) = .int .i64 (i : Int) := (hq 5 (by kernel_rfl)).trans rfl
          clear hd hq
          refine op_value (wanted_free _ _ (by rfl)) (v := .int .i64 (i : Int)) (w'' := w') ?_ (hK _ _ hI (fun _ _ h => h) rfl)
          clear hK
          simp only [execOp, e5]
          have f5 : a'.tmps[5]?.getD undef = .int .i64 (i : Int) := (Array.getD_eq_getD_getElem? ..).symm.trans e5
          clear e5
          first | rfl | (go_simp <;> exact IntWalk.i64_in _ (by omega))
        · intro a' w' K hI hd hq hK
          have e14 : a'.eval (.tmp 14) = .slice (some ⟨b1, o1, none⟩) M1.length c1 := (hd 0 14 (by kernel_rfl))
          have e15 : a'.eval (.tmp 15) = .int .i64 (i : Int) := (hd 1 15 (by kernel_rfl))
          clear hd hq
          refine op_value (wanted_free _ _ (by rfl)) (v := .pointer (some ⟨b1, o1 + i * 33, none⟩)) (w'' := w') ?_ (hK _ _ hI (fun _ _ h => h) rfl)
          clear hK
          simp only [execOp, e14, e15]
          have f14 : a'.tmps[14]?.getD undef = .slice (some ⟨b1, o1, none⟩) M1.length c1 := (Array.getD_eq_getD_getElem? ..).symm.trans e14
          have f15 : a'.tmps[15]?.getD undef = .int .i64 (i : Int) := (Array.getD_eq_getD_getElem? ..).symm.trans e15
          clear e14 e15
          first | rfl | (go_simp <;> exact IntWalk.i64_in _ (by omega))
        · intro a' w' K hI hd hq hK
          have e16 : a'.eval (.tmp 16) = .pointer (some ⟨b1, o1 + i * 33, none⟩) := (hd 2 16 (by kernel_rfl))
          clear hd hq
          subst hI
          refine op_value (wanted_free _ _ (by rfl)) (v := .agg x1.toArray) (w'' := wr.drew) ?_ (hK _ _ rfl (fun _ _ h => h) rfl)
          simp only [execOp, e16, Instr.loadAt, Instr.sureAddr, Sem.run_bind, Sem.run_pure, Result.andThen_ok, run_loadVar_mid wr.drew b1 (o1 + i * 33) 92 x1 _ RG1.out Try.underlying92 rfl IL1.out]
        · intro a' w' K hI hd hq hK
          have e1 : a'.eval (.tmp 1) = .slice (some ⟨b2, o2, none⟩) M2.length c2 := (hq 1 (by kernel_rfl)).trans rfl
          clear hd hq
          refine op_value (wanted_free _ _ (by rfl)) (v := .slice (some ⟨b2, o2, none⟩) M2.length c2) (w'' := w') ?_ (hK _ _ hI (fun _ _ h => h) rfl)
          clear hK
          simp only [execOp, e1]
          have f1 : a'.tmps[1]?.getD undef = .slice (some ⟨b2, o2, none⟩) M2.length c2 := (Array.getD_eq_getD_getElem? ..).symm.trans e1
          clear e1
          first | rfl | (go_simp <;> exact IntWalk.i64_in _ (by omega))
        · intro a' w' K hI hd hq hK
          have e5 : a'.eval (.tmp 5) = .int .i64 (i : Int) := (hq 5 (by kernel_rfl)).trans rfl
          clear hd hq
          refine op_value (wanted_free _ _ (by rfl)) (v := .int .i64 (i : Int)) (w'' := w') ?_ (hK _ _ hI (fun _ _ h => h) rfl)
          clear hK
          simp only [execOp, e5]
          have f5 : a'.tmps[5]?.getD undef = .int .i64 (i : Int) := (Array.getD_eq_getD_getElem? ..).symm.trans e5
          clear e5
          first | rfl | (go_simp <;> exact IntWalk.i64_in _ (by omega))
        · intro a' w' K hI hd hq hK
          have e18 : a'.eval (.tmp 18) = .slice (some ⟨b2, o2, none⟩) M2.length c2 := (hd 4 18 (by kernel_rfl))
          have e19 : a'.eval (.tmp 19) = .int .i64 (i : Int) := (hd 5 19 (by kernel_rfl))
          clear hd hq
          refine op_value (wanted_free _ _ (by rfl)) (v := .pointer (some ⟨b2, o2 + i * 33, none⟩)) (w'' := w') ?_ (hK _ _ hI (fun _ _ h => h) rfl)
          clear hK
          simp only [execOp, e18, e19]
          have f18 : a'.tmps[18]?.getD undef = .slice (some ⟨b2, o2, none⟩) M2.length c2 := (Array.getD_eq_getD_getElem? ..).symm.trans e18
          have f19 : a'.tmps[19]?.getD undef = .int .i64 (i : Int) := (Array.getD_eq_getD_getElem? ..).symm.trans e19
          clear e18 e19
          first | rfl | (go_simp <;> exact IntWalk.i64_in _ (by omega))
        · intro a' w' K hI hd hq hK
          have e20 : a'.eval (.tmp 20) = .pointer (some ⟨b2, o2 + i * 33, none⟩) := (hd 6 20 (by kernel_rfl))
          clear hd hq
          subst hI
          refine op_value (wanted_free _ _ (by rfl)) (v := .agg x2.toArray) (w'' := wr.drew) ?_ (hK _ _ rfl (fun _ _ h => h) rfl)
          simp only [execOp, e20, Instr.loadAt, Instr.sureAddr, Sem.run_bind, Sem.run_pure, Result.andThen_ok, run_loadVar_mid wr.drew b2 (o2 + i * 33) 92 x2 _ RG2.out Try.underlying92 rfl IL2.out]
        · intro a' w' K hI hd hq hK
          have e17 : a'.eval (.tmp 17) = .agg x1.toArray := (hd 3 17 (by kernel_rfl))
          have e21 : a'.eval (.tmp 21) = .agg x2.toArray := (hd 7 21 (by kernel_rfl))
          clear hd hq
          refine op_value (wanted_free _ _ (by rfl)) (v := .bool (!q)) (w'' := w') ?_ (hK _ _ hI (fun _ _ h => h) rfl)
          simp only [execOp, e17, e21, Sem.run_bind, run_eqGuard_agg w' _ 92 _ _ _ _ (show Try.prog.eqGuardType Try.prog.depth 92 = false by kernel_rfl), run_neq_struct, HQ.out w', Result.andThen_ok, Sem.run_pure]
      case fin4 =>
        rintro w' hI _ rfl _ rfl _ rfl _ rfl _ rfl _ rfl _ rfl _ rfl _ rfl
        simp only [Act.put, List.setIfInBounds_toArray, List.set_cons_zero, List.set_cons_succ, FinGoal]
        cases q with
        | true =>
          go_wp2_with fail
          go_roundg (m - (i + 1))
          case measure => have := HK.out; have := HLT.out; omega
          case rel => exact ⟨i + 1, HLT.out, rfl, by go_num, HE1.out (by first | trivial | rfl), HB.out.drew⟩
        | false =>
          go_wp2_with fail
          go_ret
          rw [HE2.out (by first | trivial | rfl)]
          exact ⟨rfl, HB.out.drew⟩
    · obtain rfl : i = m := by omega
      have HRT := Lib.hid (show R = true by rw [ER.out, decide_eq_true_iff]; exact HEQ.out)
      clear hlt hi
      go_wp2_with fail
      go_ret
      rw [HRT.out]
      exact ⟨rfl, HB.out⟩

end Go.Proofs.Ytjakhemolecbnaa
end

/-
  The walk of Check, of the chain, and of the law's runs.
-/
section
set_option linter.unusedVariables false
set_option linter.unusedSimpArgs false
namespace Go.Proofs.Ytjakhemolecbnaa
open Go.RowKit

set_option maxRecDepth 100000 in
set_option maxHeartbeats 8000000 in
theorem check_made (A : Option Addr) (n c : Nat) (L : List (List UInt8)) (w : World) (hl : L.length = n) (hn : n ≤ 100000) (hs : ∀ x ∈ L, x.length ≤ 1000000) (hr : RC w A (lv (mkOf L))) :
    Calls Try.prog 68 #[.slice A n c] w fun e w' => e = .returned (.int .i64 (n : Int)) ∧ Below w.heap.size w w' := by
  subst hl
  have HL := Lib.hid hr
  have HSM := Lib.hid hs
  have HN := Lib.hid hn
  clear hr hs
  obtain ⟨z32, hz32⟩ : ∃ z32, z32 = (bv (List.replicate 32 0)).toArray := ⟨_, rfl⟩
  obtain ⟨z33, hz33⟩ : ∃ z33, z33 = (lk ([], hd0)).toArray := ⟨_, rfl⟩
  have HZ33 := Lib.hid hz33
  clear hz33
  go_enter Try.func68, Try.ntmps68
  go_upto_region 1 with fail
  refine wp_region_lit ?_
  refine Great.wpList_allocTo rfl _ rfl (.pointer (some ⟨w.heap.size, 0, none⟩)) (.cells z32 86) ?x1 ?_
  case x1 => rw [hz32]; kernel_rfl
  refine wpList_nil ?_
  rename_i hK
  refine hK _ _ ?_
  clear hK
  obtain ⟨w1, hw1⟩ : ∃ w1, w1 = w.alloc (.cells z32 86) := ⟨_, rfl⟩
  rw [← hw1]
  have HA1 := Lib.hid (show Arr w1 w.heap.size 86 (bv (headOf [])) by rw [hw1, hz32]; exact Arr.new _ _ _)
  have HB1 := Lib.hid (show Below w.heap.size w w1 by rw [hw1]; exact (Below.refl _ _).alloc (Nat.le_refl _) _)
  clear hw1 hz32
  go_wp2_with fail
  go_loopg [8] L.length (fun k s8 wr => ∃ i : Nat, i ≤ L.length ∧ k = L.length - i ∧ s8 = .int .i64 (i : Int) ∧ Arr wr w.heap.size 86 (bv (headOf (L.take i))) ∧ Below w.heap.size w wr)
  case atStart => exact ⟨0, Nat.zero_le _, by omega, rfl, HA1.out, HB1.out⟩
  case round =>
    obtain ⟨i, hi, hk, rfl, ha, hb⟩ := hrel
    have HK := Lib.hid hk
    have HA := Lib.hid ha
    have HB := Lib.hid hb
    clear hk ha hb HA1 HB1
    by_cases hlt : i < L.length
    · have hltm : i < (mkOf L).length := by rw [mkOf_length]; exact hlt
      have hheads := mkOf_heads L
      obtain ⟨bl, ol, rfl, e1⟩ := HL.out.parts (by rw [lv_length _ hheads]; omega)
      have hRG := lk_range hheads (fun j u hj => cell_below HB.out (e1 j u hj)) i hltm
      rw [mkOf_get L i hltm hlt] at hRG
      have hxs : (L[i]).length ≤ 1000000 := HSM.out _ (List.getElem_mem hlt)
      have hT := List.take_succ_eq_append_getElem hlt
      rw [hT, headOf_snoc] at hRG
      have HT := Lib.hid (show headOf (L.take (i + 1)) = nextOf (headOf (L.take i)) L[i] by rw [hT, headOf_snoc])
      generalize L[i] = x at *
      obtain ⟨hd, ehd⟩ : ∃ hd, hd = headOf (L.take i) := ⟨_, rfl⟩
      have hhl : hd.length = 32 := by rw [ehd]; exact headOf_length _
      rw [← ehd] at HA hRG HT
      obtain ⟨h2, eh2⟩ : ∃ h2, h2 = nextOf hd x := ⟨_, rfl⟩
      have hhl2 : h2.length = 32 := by rw [eh2]; exact nextOf_length _ _
      rw [← eh2] at hRG HT
      have hlkl := lk_length (x, h2) hhl2
      obtain ⟨lc, elc⟩ : ∃ lc, lc = lk (x, h2) := ⟨_, rfl⟩
      have hfst : lc = .string (strB x) :: bv h2 := elc
      rw [← elc] at hlkl hRG
      have hil : (Try.prog.info? 92).map (·.size) = some lc.length := by rw [hlkl]; exact info33
      have hone : lc.toArray.all (·.oneCell') = true := by rw [elc]; exact all_oneCell_toArray (lk_one _)
      obtain ⟨hc, ehc⟩ : ∃ hc, hc = (bv hd).toArray := ⟨_, rfl⟩
      have hcs : hc.size = 32 := by rw [ehc, List.size_toArray, bv_length, hhl]
      have hcz : (Try.prog.info? 86).map (·.size) = some hc.size := by rw [hcs]; exact info72
      obtain ⟨hc2, ehc2⟩ : ∃ hc2, hc2 = (bv h2).toArray := ⟨_, rfl⟩
      have hcs2 : hc2.size = 32 := by rw [ehc2, List.size_toArray, bv_length, hhl2]
      have hcz2 : (Try.prog.info? 86).map (·.size) = some hc2.size := by rw [hcs2]; exact info72
      have hone2 : hc2.all (·.oneCell') = true := by rw [ehc2]; exact all_oneCell_toArray (bv_one _)
      have HEQ := Lib.hid (show ∀ W, (Op.equalIn 10000 86 (.agg hc2) (.agg hc2)).run Try.prog W = .ok true W by
        intro W
        rw [ehc2, eq32 h2 h2 hhl2 hhl2, decide_eq_true rfl])
      have hi0 : (0 : Int) ≤ (i : Int) := by omega
      have hi1 : (i : Int) < (L.length : Int) := by omega
      have HXS := Lib.hid (show (strB x).size ≤ 1000000 by rw [strB_size]; exact hxs)
      have HLT := Lib.hid hlt
      have HRG := Lib.hid hRG
      have HIL := Lib.hid hil
      have HLKL := Lib.hid hlkl
      have HONE := Lib.hid hone
      have HFST := Lib.hid hfst
      have HHL := Lib.hid hhl
      have HHL2 := Lib.hid hhl2
      have EHC := Lib.hid ehc
      have HCS := Lib.hid hcs
      have HCZ := Lib.hid hcz
      have EHC2 := Lib.hid ehc2
      have HCS2 := Lib.hid hcs2
      have HCZ2 := Lib.hid hcz2
      have HONE2 := Lib.hid hone2
      have EH2 := Lib.hid eh2
      clear hltm hheads e1 hRG hxs hT ehd hhl eh2 hhl2 hlkl elc hfst hil hone ehc hcs hcz ehc2 hcs2 hcz2 hone2 hlt hi
      go_upto_region 4 with fail
      refine wp_region_lit ?_
      refine Great.wpList_readTo rfl _ rfl (.int .i64 (i : Int)) rfl ?_
      refine Great.wpList_readTo rfl _ rfl (.pointer (some ⟨bl, ol + i * 33, none⟩)) ?h1 ?_
      case h1 =>
        simp only [execOp]
        go_simp
      refine wpList_load_mid rfl 92 (.tmp 11) rfl bl (ol + i * 33) rfl lc _ HRG.out Try.underlying92 rfl HIL.out ?_
      obtain ⟨z, hz⟩ : ∃ z, z = wr.heap.size := ⟨_, rfl⟩
      refine Great.wpList_allocTo rfl _ rfl (.pointer (some ⟨z, 0, none⟩)) (.cells z33 92) ?h2 ?_
      case h2 => rw [HZ33.out, hz]; kernel_rfl
      refine Great.wpList_readTo rfl _ rfl (.int .i64 (i : Int)) rfl ?_
      refine wpList_store_row rfl 92 (.tmp 5) (.tmp 12) rfl z lc.toArray rfl rfl 92 z33 (by rw [hz]; exact heap_alloc_new wr _) (by rw [List.size_toArray]; exact HIL.out) (by rw [HZ33.out, List.size_toArray, List.size_toArray, HLKL.out]; rfl) HONE.out ?_
      refine wpList_nil ?_
      rename_i hK
      refine hK _ _ ?_
      clear hK
      obtain ⟨w5, hw5⟩ : ∃ w5, w5 = (wr.alloc (.cells z33 92)).setRow z lc.toArray := ⟨_, rfl⟩
      rw [← hw5]
      have hz5 : w5.heap[z]? = some (.cells lc.toArray 92) := by rw [hw5, hz]; exact setRow_heap _ _ _ _ _ _ (heap_alloc_new wr _)
      have cz : w5.cell? ⟨z, 0, none⟩ = some (.string (strB x)) := by
        rw [cell_of_row w5 z 0 _ _ _ hz5, HFST.out]
        rfl
      have HB5 := Lib.hid (show Below wr.heap.size wr w5 by rw [hw5]; exact below_setRow ((Below.refl _ _).alloc (Nat.le_refl _) _) _ _ (by omega))
      have HA5 := Lib.hid (show w5.heap[w.heap.size]? = some (.cells hc 86) from (HB5.out.block w.heap.size (Arr.lt HA.out)).trans (by rw [EHC.out]; exact HA.out))
      have HBB := Lib.hid (below_below HB.out HB.out.size HB5.out)
      have HZ5 := Lib.hid hz5
      have HZW := Lib.hid (show w.heap.size < z by rw [hz]; exact Arr.lt HA.out)
      clear hw5 hz5 hz HB5
      go_upto_region 5 with fail
      refine wp_region_lit ?_
      refine wpList_load_row rfl 86 (.tmp 3) rfl w.heap.size rfl 86 hc (0, 0) _ HA5.out Try.underlying86 rfl HCZ.out ?_
      go_wp2_with fail
      rw [EHC.out]
      refine (next_any hd (strB x) w5 HHL.out HXS.out).mono ?_
      rw [strB_toList, ← EH2.out, ← EHC2.out]
      rintro e w6 ⟨rfl, hb6⟩
      have HA6 := Lib.hid (show w6.heap[w.heap.size]? = some (.cells hc 86) from (hb6.block w.heap.size (Array.getElem?_eq_some_iff.1 HA5.out).1).trans HA5.out)
      have HZ6 := Lib.hid ((hb6.block z (Array.getElem?_eq_some_iff.1 HZ5.out).1).trans HZ5.out)
      have HB6 := Lib.hid (below_below HBB.out HBB.out.size hb6)
      clear hb6 cz
      go_upto_region 6 with (refine wpList_store_row rfl 86 (.tmp 3) (.tmp 16) rfl w.heap.size hc2 rfl rfl 86 hc HA6.out HCZ2.out (by rw [HCS.out, HCS2.out]) HONE2.out ?_)
      obtain ⟨w7, hw7⟩ : ∃ w7, w7 = w6.setRow w.heap.size hc2 := ⟨_, rfl⟩
      rw [← hw7]
      have HA7 := Lib.hid (show w7.heap[w.heap.size]? = some (.cells hc2 86) by rw [hw7]; exact setRow_heap _ _ _ _ _ _ HA6.out)
      have hZ7 : w7.heap[z]? = some (.cells lc.toArray 92) := by rw [hw7]; exact (setRow_other _ _ _ _ (by have := HZW.out; omega)).trans HZ6.out
      have HB7 := Lib.hid (show Below w.heap.size w w7 by rw [hw7]; exact below_setRow HB6.out _ _ (Nat.le_refl _))
      have HRZ := Lib.hid (show w7.rangeAt z 1 (bv h2) by
        intro j v hj
        rw [cell_of_row w7 z (1 + j) _ _ _ hZ7, HFST.out, Nat.add_comm 1 j]
        simpa using hj)
      clear hw7 hZ7
      refine wp_region_lit ?_
      refine Great.wpList_readTo rfl _ rfl (.pointer (some ⟨z, 1, none⟩)) ?h3 ?_
      case h3 =>
        simp only [execOp]
        go_simp
      refine wpList_load_mid rfl 86 (.tmp 17) rfl z 1 rfl (bv h2) _ HRZ.out Try.underlying86 rfl (by rw [bv_length, HHL2.out]; exact info72) ?_
      rw [← EHC2.out]
      refine wpList_load_row rfl 86 (.tmp 3) rfl w.heap.size rfl 86 hc2 (0, 0) _ HA7.out Try.underlying86 rfl HCZ2.out ?_
      refine Great.wpList_readTo rfl _ rfl (.bool (!true)) ?h4 ?_
      case h4 =>
        have ea : ∀ (a : Act), a.tmps.getD 18 undef = .agg hc2 → a.tmps.getD 19 undef = .agg hc2 → (execOp a.eval { dst := some 20, op := .binOp .neq 86 (.tmp 18) (.tmp 19) 86, type := 4, pos := "", after := #[], guard := none }).run Try.prog w7 = .ok (.value (.bool (!true))) w7 := by
          intro a h18 h19
          have h18' : a.eval (.tmp 18) = .agg hc2 := h18
          have h19' : a.eval (.tmp 19) = .agg hc2 := h19
          simp only [execOp, h18', h19', Sem.run_bind, run_eqGuard_agg w7 _ 86 _ _ _ _ (show Try.prog.eqGuardType Try.prog.depth 86 = false by kernel_rfl), run_neq_struct, HEQ.out w7, Result.andThen_ok, Sem.run_pure]
        exact ea _ rfl rfl
      refine wpList_nil ?_
      rename_i hK
      refine hK _ _ ?_
      clear hK
      go_wp2_with fail
      go_roundg (L.length - (i + 1))
      case measure => have := HK.out; have := HLT.out; omega
      case rel => exact ⟨i + 1, HLT.out, rfl, by go_num, by rw [HT.out]; have h := HA7.out; rw [EHC2.out] at h; exact h, HB7.out⟩
    · obtain rfl : i = L.length := by omega
      go_wp2_with fail
      go_ret
      exact ⟨rfl, HB.out⟩

end Go.Proofs.Ytjakhemolecbnaa
end

/-
  The walk of the runs that the laws of chain close with.
-/
section
set_option linter.unusedVariables false
set_option linter.unusedSimpArgs false
namespace Go.Proofs.Ytjakhemolecbnaa
open Go.RowKit

theorem lv_split (M : List (List UInt8 × List UInt8)) (k : Nat) : lv M = lv (M.take k) ++ lv (M.drop k) := by
  rw [lv, lv, lv, ← List.flatMap_append, List.take_append_drop]
theorem RLk_take {w : World} {A : Option Addr} {M : List (List UInt8 × List UInt8)} (h : RC w A (lv M)) (k : Nat) : RC w A (lv (M.take k)) := by
  intro hp
  obtain ⟨ad, e, hc⟩ := h (by rw [lv_split M k, List.length_append]; omega)
  exact ⟨ad, e, fun j v hj => hc j v (by rw [lv_split M k, List.getElem?_append_left (List.getElem?_eq_some_iff.1 hj).1]; exact hj)⟩
theorem mkOf_one (x : List UInt8) : mkOf [x] = [(x, headOf [x])] := by simp [mkOf]
theorem mkOf_texts (L : List (List UInt8)) (k : Nat) (hs : ∀ x ∈ L, x.length ≤ k) : ∀ x ∈ mkOf L, x.1.length ≤ k := by
  intro x hx
  simp only [mkOf, List.mem_map] at hx
  obtain ⟨j, hj, rfl⟩ := hx
  have hj' := List.mem_range.1 hj
  simp only [List.getD_eq_getElem?_getD, List.getElem?_eq_getElem hj', Option.getD_some]
  exact hs _ (List.getElem_mem hj')

end Go.Proofs.Ytjakhemolecbnaa
end

/-
  The walk of Decode, of the chain, on the bytes of a chain that was made.
-/
section
set_option linter.unusedVariables false
set_option linter.unusedSimpArgs false
namespace Go.Proofs.Ytjakhemolecbnaa
open Go.RowKit

theorem encL_split (M : List (List UInt8 × List UInt8)) (i : Nat) : encL M = encL (M.take i) ++ encL (M.drop i) := by
  rw [encL, encL, encL, ← List.flatMap_append, List.take_append_drop]
/-- Where link i begins. -/
def posOf (M : List (List UInt8 × List UInt8)) (i : Nat) : Nat := 4 + (encL (M.take i)).length
theorem posOf_zero (M : List (List UInt8 × List UInt8)) : posOf M 0 = 4 := by simp [posOf, encL]
theorem posOf_all (M : List (List UInt8 × List UInt8)) : posOf M M.length = (encOf M).length := by simp [posOf, encOf, be4n_length]
theorem posOf_succ (M : List (List UInt8 × List UInt8)) (i : Nat) (h : i < M.length) (h2 : (M[i]).2.length = 32) : posOf M (i + 1) = posOf M i + 4 + (M[i]).1.length + 32 := by
  unfold posOf
  rw [List.take_succ_eq_append_getElem h, encL_snoc]
  simp only [List.length_append, be4n_length, h2]
  omega
theorem enc_drop (M : List (List UInt8 × List UInt8)) (i : Nat) : (encOf M).drop (posOf M i) = encL (M.drop i) := by
  unfold encOf posOf
  rw [encL_split M i, ← List.append_assoc, List.drop_append_of_le_length (by simp only [List.length_append, be4n_length]; omega), List.drop_of_length_le (by simp only [List.length_append, be4n_length]; omega), List.nil_append]
theorem enc_at (M : List (List UInt8 × List UInt8)) (i : Nat) (h : i < M.length) : ∃ t, (encOf M).drop (posOf M i) = be4n (M[i]).1.length ++ ((M[i]).1 ++ ((M[i]).2 ++ t)) := by
  rw [enc_drop, List.drop_eq_getElem_cons h, encL, List.flatMap_cons]
  refine ⟨(M.drop (i + 1)).flatMap fun x => be4n x.1.length ++ x.1 ++ x.2, ?_⟩
  simp only [List.append_assoc]
theorem enc_four (l : List UInt8) (a : Nat) (t h r : List UInt8) (ht : t.length ≤ 4000) (e : l.drop a = be4n t.length ++ (t ++ (h ++ r))) : four (l.drop a) = t.length := by
  rw [e]
  exact four_be4 _ (by omega) _
theorem enc_text (l : List UInt8) (a : Nat) (t h r : List UInt8) (e : l.drop a = be4n t.length ++ (t ++ (h ++ r))) : (l.drop (a + 4)).take t.length = t := by
  rw [← List.drop_drop, e, List.drop_left' (be4n_length _), List.take_left]
theorem enc_byte (l : List UInt8) (a : Nat) (t h r : List UInt8) (e : l.drop a = be4n t.length ++ (t ++ (h ++ r))) (j : Nat) (hj : j < h.length) : bt l (a + 4 + t.length + j) = bt h j := by
  have e2 : l.drop (a + 4 + t.length) = h ++ r := by
    rw [← List.drop_drop, ← List.drop_drop, e, List.drop_left' (be4n_length _), List.drop_left]
  have e3 := congrArg (fun x => x[j]?) e2
  simp only [List.getElem?_drop, List.getElem?_append_left hj] at e3
  simp only [bt, List.getD_eq_getElem?_getD, e3]
/-- A head of which j bytes are read. -/
def hpB (h : List UInt8) (j : Nat) : List UInt8 := h.take j ++ List.replicate (32 - j) 0
theorem hpB_length (h : List UInt8) (j : Nat) (hh : h.length = 32) (hj : j ≤ 32) : (hpB h j).length = 32 := by simp [hpB, hh]; omega
theorem hpB_zero (h : List UInt8) : hpB h 0 = hd0 := by simp [hpB, hd0]
theorem hpB_done (h : List UInt8) (hh : h.length = 32) : hpB h 32 = h := by rw [hpB, List.take_of_length_le (by omega)]; simp
theorem hpB_succ (h : List UInt8) (j : Nat) (hh : h.length = 32) (hj : j < 32) : (hpB h j).set j (bt h j) = hpB h (j + 1) := by
  unfold hpB
  rw [List.set_append_right _ _ (by rw [List.length_take]; omega), List.length_take, Nat.min_eq_left (by omega), Nat.sub_self, show 32 - j = (32 - (j + 1)) + 1 by omega, List.replicate_succ,
    List.take_succ_eq_append_getElem (by omega : j < h.length), List.set_cons_zero, List.append_assoc]
  congr 1
  simp [bt, List.getD_eq_getElem?_getD, List.getElem?_eq_getElem (show j < h.length by omega)]
theorem lk_set (t h : List UInt8) (j : Nat) (x : UInt8) : (lk (t, h)).set (1 + j) (.int .u8 (un8 x)) = lk (t, h.set j x) := by
  unfold lk
  rw [Nat.add_comm 1 j, List.set_cons_succ, bv_set]
theorem lk_frozen {w : World} {z : Nat} {cs : Array Value} (h : w.heap[z]? = some (.cells cs 92)) (j : Nat) : w.frozen? ⟨z, j, none⟩ = false := by
  unfold World.frozen?
  simp [h]
theorem built_text (s : List UInt8) : Try.prog.built 92 [(0, .string (strB s))] = some (lk (s, hd0)).toArray := by
  unfold lk
  simp only []
  generalize strB s = q
  kernel_rfl
theorem tail67 (t : List Value) (h : t.length = 67) : ∃ u : Nat → Value, t = [u 9, u 10, u 11, u 12, u 13, u 14, u 15, u 16, u 17, u 18, u 19, u 20, u 21, u 22, u 23, u 24, u 25, u 26, u 27, u 28, u 29, u 30, u 31, u 32, u 33, u 34, u 35, u 36, u 37, u 38, u 39, u 40, u 41, u 42, u 43, u 44, u 45, u 46, u 47, u 48, u 49, u 50, u 51, u 52, u 53, u 54, u 55, u 56, u 57, u 58, u 59, u 60, u 61, u 62, u 63, u 64, u 65, u 66, u 67, u 68, u 69, u 70, u 71, u 72, u 73, u 74, u 75] := by
  refine ⟨fun k => t.getD (k - 9) undef, ?_⟩
  have e : t = (List.range 67).map fun k => t.getD k undef := by
    apply List.ext_getElem
    · simp [h]
    · intro i h1 h2
      simp [List.getD_eq_getElem?_getD, List.getElem?_eq_getElem h1]
  exact e
theorem infoI : (Try.prog.info? 3).map (fun i => (i.zero, i.size, i.bytes)) = some (some (.int .i64 0), 1, 8) := by kernel_rfl

set_option maxRecDepth 100000 in
set_option maxHeartbeats 16000000 in
theorem decode_made (A : Option Addr) (n c : Nat) (L : List (List UInt8)) (w : World) (hl : (encOf (mkOf L)).length = n) (hLn : L.length ≤ 4000) (hs : ∀ x ∈ L, x.length ≤ 4000) (hr : RB w A (encOf (mkOf L))) (hnil : A = none → c = 0) :
    Calls Try.prog 36 #[.slice A n c] w fun e w' => ∃ v, e = .returned (.tuple #[v, .int .i64 0, .int .i64 0]) ∧ w'.ownsRow w.heap.size 92 33 v L.length (lv (mkOf L)) ∧ Below w.heap.size w w' := by
  subst hl
  have HR := Lib.hid hr
  have HNIL := Lib.hid hnil
  have HSM := Lib.hid (show ∀ x ∈ L, x.length ≤ 1000000 from fun x hx => by have := hs x hx; omega)
  obtain ⟨M, eM⟩ : ∃ M, M = mkOf L := ⟨_, rfl⟩
  have hMl : M.length = L.length := by rw [eM, mkOf_length]
  have hMh : ∀ x ∈ M, x.2.length = 32 := by rw [eM]; exact mkOf_heads L
  have hMt : ∀ x ∈ M, x.1.length ≤ 4000 := by rw [eM]; exact mkOf_texts L 4000 hs
  rw [← eM] at HR ⊢
  obtain ⟨N, eN⟩ : ∃ N, N = L.length := ⟨_, rfl⟩
  rw [← eN] at hMl hLn ⊢
  obtain ⟨l, el⟩ : ∃ l, l = encOf M := ⟨_, rfl⟩
  have hll : l.length ≤ 17000000 := by
    have h1 := encL_bound M hMh hMt
    rw [el, encOf, List.length_append, be4n_length]
    omega
  have h4 : four (l.drop 0) = N := by
    rw [List.drop_zero, el, encOf, hMl]
    exact four_be4 _ (by omega) _
  have hl4 : 0 + 4 ≤ l.length := by rw [el, encOf, List.length_append, be4n_length]; omega
  have hpz : posOf M 0 = 0 + 4 := posOf_zero M
  have hpa : posOf M N = l.length := by rw [← hMl, posOf_all, el]
  have hfit : ∀ i, (h : i < M.length) → ∃ t h2 r, M[i] = (t, h2) ∧ t.length ≤ 4000 ∧ h2.length = 32 ∧ l.drop (posOf M i) = be4n t.length ++ (t ++ (h2 ++ r)) ∧ posOf M (i + 1) = posOf M i + 4 + t.length + 32 := by
    intro i h
    obtain ⟨r, er⟩ := enc_at M i h
    exact ⟨(M[i]).1, (M[i]).2, r, rfl, hMt _ (List.getElem_mem h), hMh _ (List.getElem_mem h), by rw [el]; exact er, posOf_succ M i h (hMh _ (List.getElem_mem h))⟩
  have hmono : ∀ i, i ≤ N → posOf M i ≤ l.length := by
    intro i hi
    rw [el]
    unfold posOf encOf
    rw [List.length_append, be4n_length, encL_split M i, List.length_append]
    omega
  rw [← el] at HR ⊢
  have HLL := Lib.hid hll
  have H4 := Lib.hid h4
  have HL4 := Lib.hid hl4
  have HPZ := Lib.hid hpz
  have HPA := Lib.hid hpa
  have HFIT := Lib.hid hfit
  have HMONO := Lib.hid hmono
  have HML := Lib.hid hMl
  have HMH := Lib.hid hMh
  have HLN := Lib.hid hLn
  have EM := Lib.hid eM
  have EN := Lib.hid eN
  clear hr hnil hs eM hMl hMh hMt eN hLn el hll h4 hl4 hpz hpa hfit hmono
  obtain ⟨z33, hz33⟩ : ∃ z33, z33 = (lk ([], hd0)).toArray := ⟨_, rfl⟩
  have HZ33 := Lib.hid hz33
  clear hz33
  go_enter Try.func36, Try.ntmps36
  go_wp2_with fail
  refine wp_scope_loop 0 (fun a' w' => ∃ (i lf q Bq : Nat) (vq vo vp : Value) (ps : List Value) (t : List Value),
    a' = { tmps := (.slice A l.length c :: undef :: .slice none 0 0 :: .int .i64 0 :: .int .i64 0 :: .pointer (some ⟨q, 0, none⟩) :: vo :: vp :: .int .i64 (lf : Int) :: t).toArray, defers := [] } ∧ t.length = 67 ∧
    i + lf = N ∧ ReaderAt w' w.heap.size q vq l (posOf M i) ∧ w'.ownsRow Bq 92 33 vo i (lv (M.take i)) ∧ w'.ownsRow Bq 3 1 vp i ps ∧ q < Bq ∧ (∀ k, vq.ownBlock = some k → k < Bq) ∧ w.heap.size ≤ Bq ∧ (∀ k, vo.ownBlock = some k → vp.ownBlock ≠ some k) ∧ Bq ≤ w'.heap.size ∧ Below w.heap.size w w')
    (fun a' _ => (intOf (a'.tmps.getD 8 undef)).toNat) rfl ?pass ?first
  case first =>
    intro hrest
    go_wp2_with fail
    refine (newReader_any A l.length c l _ rfl (by have := HLL.out; omega) HR.out HNIL.out).mono ?_
    rintro e w1 ⟨q, vq, rfl, hw, hb⟩
    have R1 := Lib.hid hw
    have B1 := Lib.hid hb
    clear hw hb
    go_wp2_with fail
    refine (readerCount2_any _ _ _ _ _ _ R1.out HL4.out (by have := HLL.out; omega) 4096 N H4.out (by have := HLN.out; omega) (by omega)).mono ?_
    rintro e w2 ⟨rfl, hw, hu⟩
    have hlq := R1.out.lt
    have hlv : ∀ k, vq.ownBlock = some k → k < w1.heap.size := fun k hk => (World.ownsRow.lt R1.out.own k hk).2
    have B2 := Lib.hid (below_upd B1.out B1.out.size hu (fun k hk => by rw [hk]; exact R1.out.base))
    have hsz := hu.size
    have R2 := Lib.hid hw
    have hsB := B1.out.size
    clear hw hu
    go_wp2_with fail
    go_step3
    rename_i hK
    refine hK _ _ (hrest _ _ ?_)
    exact ⟨0, N, q, w1.heap.size, vq, _, _, [], _, rfl, rfl, by omega, by rw [HPZ.out]; exact R2.out, World.ownsRow_nil _ _ _ _, World.ownsRow_nil _ _ _ _, hlq, hlv, hsB, fun k hk => by simp [Value.ownBlock] at hk, hsz, B2.out⟩
  case pass =>
    rintro a' w' ⟨i, lf, q, Bq, vq, vo, vp, ps, tl, rfl, htl0, hil, hrd, ho, hp, hqB, hvB, hwB, hdis, hBs, hb⟩
    obtain ⟨u, rfl⟩ := tail67 tl htl0
    clear htl0
    have HIL := Lib.hid hil
    have HRD := Lib.hid hrd
    have HO := Lib.hid ho
    have HP := Lib.hid hp
    have HQB := Lib.hid hqB
    have HVB := Lib.hid hvB
    have HWB := Lib.hid hwB
    have HDIS := Lib.hid hdis
    have HBS := Lib.hid hBs
    have HB := Lib.hid hb
    clear hil hrd ho hp hqB hvB hwB hdis hBs hb
    by_cases h0 : lf = 0
    · subst h0
      have hi : i = N := by have := HIL.out; omega
      subst hi
      rw [List.take_of_length_le (by rw [HML.out]; exact Nat.le_refl _)] at HO
      rw [HPA.out] at HRD
      go_wp2_with fail
      refine (readerEnd2_any _ _ _ _ _ _ HRD.out rfl (by have := HLL.out; omega)).mono ?_
      rintro e w2 ⟨rfl, hw, hu⟩
      have ho2 := own_upd HO.out hu (fun k hk e => by have := (World.ownsRow.lt HO.out k hk).1; have := HQB.out; omega)
      have hb2 := below_upd HB.out HB.out.size hu (fun k hk => by rw [hk]; exact HRD.out.base)
      obtain ⟨Ao, co, rfl, _⟩ := own_slice ho2
      have HO2 := Lib.hid ho2
      have HB2 := Lib.hid hb2
      clear ho2 hb2 hw hu
      go_wp2_with fail
      refine (check_made Ao i co L w2 EN.out.symm (by have := HLN.out; omega) HSM.out (by rw [← EM.out]; exact own_RC HO2.out)).mono ?_
      rintro e w3 ⟨rfl, hb3⟩
      have HO3 := Lib.hid (own_below HO2.out hb3)
      have HB3 := Lib.hid (below_below HB2.out HB2.out.size hb3)
      clear hb3
      go_wp2_with fail
      simp only [Exit.jump]
      go_ret3
      exact ⟨_, rfl, own_lower HO3.out HWB.out, HB3.out⟩
    · obtain ⟨m, rfl⟩ : ∃ m, lf = m + 1 := ⟨lf - 1, by omega⟩
      have hiM : i < M.length := by rw [HML.out]; have := HIL.out; omega
      obtain ⟨t, h, r, eMi, htl, hhl, ed, epos⟩ := HFIT.out i hiM
      have hpl := HMONO.out (i + 1) (by have := HIL.out; omega)
      have HTK := Lib.hid (show M.take (i + 1) = M.take i ++ [(t, h)] by rw [List.take_succ_eq_append_getElem hiM, eMi])
      have HF := Lib.hid (enc_four l _ t h r htl ed)
      have HTX := Lib.hid (enc_text l _ t h r ed)
      have HBY := Lib.hid (show ∀ j : Nat, j < 32 → bt l (posOf M i + 4 + t.length + j) = bt h j from fun j hj => enc_byte l _ t h r ed j (by omega))
      rw [epos] at hpl
      have EP := Lib.hid epos
      obtain ⟨a, ea⟩ : ∃ a, a = posOf M i := ⟨_, rfl⟩
      rw [← ea] at HRD HF HTX HBY hpl EP
      have HPL := Lib.hid hpl
      have HTL := Lib.hid htl
      have HHL := Lib.hid hhl
      have hll := HLL.out
      have hla : a ≤ l.length := by omega
      have hlz : (0 : Int) < ((l.length - a : Nat) : Int) := by omega
      have hmN : (m : Int) ≤ 4000 := by have := HIL.out; have := HLN.out; omega
      have hlc : (l.length : Int) ≤ 17000000 := by omega
      clear h0 hiM eMi htl hhl ed epos ea hpl
      have HLA := Lib.hid hla
      have HLLL := Lib.hid hll
      clear hla hll
      go_wp2_with fail
      refine (readerLeft2_any _ _ _ _ _ _ HRD.out HLA.out (by have := HLLL.out; omega)).mono ?_
      rintro e w2 ⟨rfl, hw, hu⟩
      have R2 := Lib.hid hw
      have U2 := Lib.hid hu
      clear hw hu
      obtain ⟨la, ela⟩ : ∃ la, la = l.length - a := ⟨_, rfl⟩
      rw [← ela] at hlz ⊢
      have ELA := Lib.hid ela
      have hla2 : (la : Int) ≤ 17000000 := by omega
      clear ela
      go_wp2_with fail
      refine (readerLeft2_any _ _ _ _ _ _ R2.out HLA.out (by have := HLLL.out; omega)).mono ?_
      rw [← ELA.out]
      rintro e w3 ⟨rfl, hw, hu⟩
      have R3 := Lib.hid hw
      have hu3 := U2.out.trans hu (fun _ _ h => h)
      have HP3 := Lib.hid (own_upd HP.out hu3 (fun k hk e => by have := (World.ownsRow.lt HP.out k hk).1; have := HQB.out; omega))
      have HO3 := Lib.hid (own_upd HO.out hu3 (fun k hk e => by have := (World.ownsRow.lt HO.out k hk).1; have := HQB.out; omega))
      have HB3 := Lib.hid (below_upd HB.out HB.out.size hu3 (fun k hk => by rw [hk]; exact HRD.out.base))
      have HS3 := Lib.hid (show Bq ≤ w3.heap.size from Nat.le_trans HBS.out hu3.size)
      have HVL := Lib.hid (show ∀ k, vo.ownBlock = some k → k < w3.heap.size from fun k hk => (World.ownsRow.lt HO3.out k hk).2)
      clear hw hu hu3 U2
      go_wp2_with (at_builtin; refine append_any rfl _ _ 22 rfl Bq 3 (.int .i64 0) 1 8 Try.underlying22 infoI rfl (by omega) (by omega) vp i ps rfl (HP3.out.alloc _) _ 1 _ [.int .i64 ((l.length : Int) - (la : Int))] rfl rfl (RC_newL _ [.int .i64 ((l.length : Int) - (la : Int))] 3) (by intro u hu; simp at hu; rw [hu]; rfl) ?c1 ?c2 ?_)
      case c1 => have := HIL.out; have := HLN.out; omega
      case c2 => have := HS3.out; simp; omega
      intro v4 w4 ho4 hg4 hat4
      have hu4 : Upd (fun k => vp.ownBlock = some k) w3 w4 := ((Upd.refl _ w3).alloc _).grown hg4 (fun k hk _ => hk)
      have HP4 := Lib.hid ho4
      have HO4 := Lib.hid (own_upd HO3.out hu4 (fun k hk e => HDIS.out k hk e))
      have R4 := Lib.hid (R3.out.upd hu4 (fun e => by have := (World.ownsRow.lt HP3.out _ e).1; have := HQB.out; omega) (fun k hk e => by have := (World.ownsRow.lt HP3.out _ e).1; have := HVB.out k hk; omega))
      have HB4 := Lib.hid (below_upd HB3.out HB3.out.size hu4 (fun k hk => by have := (World.ownsRow.lt HP3.out k hk).1; have := HWB.out; omega))
      have HS4 := Lib.hid (show w3.heap.size ≤ w4.heap.size from hu4.size)
      have HD4 := Lib.hid (show ∀ k, vo.ownBlock = some k → v4.ownBlock ≠ some k from fun k hk e => by
        rcases hat4 with h | h
        · exact HDIS.out k hk (h ▸ e)
        · rw [h] at e
          have h1 := HVL.out k hk
          simp at e
          omega)
      clear ho4 hg4 hat4 hu4 HP3 HO3 HB3 R3 R2
      go_wp2_with fail
      refine (readerText2_any _ _ _ _ _ _ R4.out (by have := HLLL.out; omega) 4000 t.length HF.out HTL.out (by omega) (by have := HPL.out; omega)).mono ?_
      rw [HTX.out]
      rintro e w5 ⟨rfl, hw, hu⟩
      have R5 := Lib.hid hw
      have HP5 := Lib.hid (own_upd HP4.out hu (fun k hk e => by have := (World.ownsRow.lt HP4.out k hk).1; have := HQB.out; omega))
      have HO5 := Lib.hid (own_upd HO4.out hu (fun k hk e => by have := (World.ownsRow.lt HO4.out k hk).1; have := HQB.out; omega))
      have HB5 := Lib.hid (below_upd HB4.out HB4.out.size hu (fun k hk => by rw [hk]; exact R4.out.base))
      have HS5 := Lib.hid (show Bq ≤ w5.heap.size from Nat.le_trans (Nat.le_trans HS3.out HS4.out) hu.size)
      clear hw hu HP4 HO4 HB4 R4 HS3 HS4 HVL
      go_upto_region 9 with (refine wpList_store_row rfl 92 (.tmp 9) (.tmp 37) rfl w5.heap.size (lk (t, hd0)).toArray rfl (by rfl) 92 _ (heap_alloc_new w5 _) (by kernel_rfl) (by kernel_rfl) (all_oneCell_toArray (lk_one _)) ?_)
      obtain ⟨z, hz⟩ : ∃ z, z = w5.heap.size := ⟨_, rfl⟩
      rw [← hz]
      have hBz : Bq ≤ z := by rw [hz]; exact HS5.out
      generalize hw6 : World.setRow (World.alloc w5 _) z _ = w6
      have hz6 : w6.heap[z]? = some (.cells (lk (t, hpB h 0)).toArray 92) := by rw [← hw6, hz, hpB_zero]; exact setRow_heap _ _ _ _ _ _ (heap_alloc_new w5 _)
      have hb56 : Below w5.heap.size w5 w6 := by rw [← hw6, hz]; exact below_setRow ((Below.refl _ _).alloc (Nat.le_refl _) _) _ _ (Nat.le_refl _)
      have R6 := Lib.hid (R5.out.below hb56)
      have HP6 := Lib.hid (own_below HP5.out hb56)
      have HO6 := Lib.hid (own_below HO5.out hb56)
      have HB6 := Lib.hid (below_below HB5.out HB5.out.size hb56)
      have HZ6 := Lib.hid hz6
      have HBZ := Lib.hid hBz
      have HVZ := Lib.hid (show ∀ k, vo.ownBlock = some k → k ≠ z from fun k hk e => by have := (World.ownsRow.lt HO5.out k hk).2; omega)
      have HPZ2 := Lib.hid (show ∀ k, v4.ownBlock = some k → k ≠ z from fun k hk e => by have := (World.ownsRow.lt HP5.out k hk).2; omega)
      clear hw6 hz6 hb56 hBz hz R5 HP5 HO5 HB5 HS5
      go_wp2_with fail
      go_loopg [38] 32 (fun k s38 wr => ∃ j : Nat, j ≤ 32 ∧ k = 32 - j ∧ s38 = .int .i64 (j : Int) ∧ ReaderAt wr w.heap.size q vq l (a + 4 + t.length + j) ∧ wr.heap[z]? = some (.cells (lk (t, hpB h j)).toArray 92) ∧ Upd (fun k => k = q ∨ k = z) w6 wr)
      case atStart => exact ⟨0, Nat.zero_le _, by omega, rfl, R6.out, HZ6.out, Upd.refl _ _⟩
      case round =>
        obtain ⟨j, hj, hk, rfl, hrd, hzc, hu⟩ := hrel
        have HK := Lib.hid hk
        have HRJ := Lib.hid hrd
        have HZJ := Lib.hid hzc
        have HUJ := Lib.hid hu
        clear hk hrd hzc hu R6 HZ6
        by_cases hlt : j < 32
        · have HBJ := Lib.hid (HBY.out j hlt)
          have HNX := Lib.hid (hpB_succ h j HHL.out hlt)
          have hol : (lk (t, hpB h j)).length = 33 := lk_length _ (hpB_length h j HHL.out hj)
          obtain ⟨ov, hov⟩ : ∃ ov, (lk (t, hpB h j))[1 + j]? = some ov := ⟨_, List.getElem?_eq_getElem (by rw [hol]; omega)⟩
          have HOV := Lib.hid hov
          generalize bt h j = y at *
          have hj0 : (0 : Int) ≤ (j : Int) := by omega
          have hj1 : (j : Int) < 32 := by omega
          have HLT := Lib.hid hlt
          clear hol hov hlt hj
          go_wp2_with fail
          refine (readerByte2_any _ _ _ _ _ _ HRJ.out (by have := HPL.out; have := HLT.out; omega) (by have := HLLL.out; omega)).mono ?_
          rw [HBJ.out]
          rintro e w8 ⟨rfl, hw, hu⟩
          have hqz : q ≠ z := by have := HQB.out; have := HBZ.out; omega
          have hz8 : w8.heap[z]? = some (.cells (lk (t, hpB h j)).toArray 92) := (hu.block z (Array.getElem?_eq_some_iff.1 HZJ.out).1 (fun e => hqz e.symm)).trans HZJ.out
          have cz : w8.cell? ⟨z, 1 + j, none⟩ = some ov := by
            rw [cell_of_row w8 z (1 + j) _ _ _ hz8]
            simpa using HOV.out
          have fz := lk_frozen hz8 (1 + j)
          have hwy : IntKind.u8.wrap (un8 y) = un8 y := by have := un8_range y; rw [IntKind.wrap_u8]; omega
          have R8 := Lib.hid hw
          have HZ8 := Lib.hid hz8
          have HU8 := Lib.hid (show Upd (fun k => k = q ∨ k = z) w6 w8 from HUJ.out.trans hu (fun _ _ h => .inl h))
          have HQZ := Lib.hid hqz
          clear hw hu hqz hz8
          go_wp2_with fail
          go_roundg (32 - (j + 1))
          case measure => have := HK.out; have := HLT.out; omega
          case rel =>
            have hst : Upd (fun k => k = z) w8 (w8.setCell ⟨z, 1 + j, none⟩ (.int .u8 (un8 y))) := (Upd.refl (fun k => k = z) w8).setCell (fun _ => rfl) _
            refine ⟨j + 1, HLT.out, rfl, by go_num, ?_, ?_, HU8.out.trans hst (fun _ _ h => .inr h)⟩
            · rw [show a + 4 + t.length + (j + 1) = a + 4 + t.length + j + 1 by omega]
              exact R8.out.upd hst HQZ.out (fun k hk e => by have := HVB.out k hk; have := HBZ.out; omega)
            · rw [setCell_at HZ8.out, List.setIfInBounds_toArray, lk_set, HNX.out]
        · obtain rfl : j = 32 := by omega
          rw [hpB_done h HHL.out] at HZJ
          have hrd := HRJ.out
          rw [← EP.out] at hrd
          have R9 := Lib.hid hrd
          have hlkl := lk_length (t, h) HHL.out
          have HPw := Lib.hid (own_upd HP6.out HUJ.out (fun k hk e => e.elim (fun e => by have := (World.ownsRow.lt HP6.out k hk).1; have := HQB.out; omega) (HPZ2.out k hk)))
          have HOw := Lib.hid (own_upd HO6.out HUJ.out (fun k hk e => e.elim (fun e => by have := (World.ownsRow.lt HO6.out k hk).1; have := HQB.out; omega) (HVZ.out k hk)))
          have HBw := Lib.hid (below_upd HB6.out HB6.out.size HUJ.out (fun k hk => by
            rcases hk with e | e
            · rw [e]; exact HRD.out.base
            · rw [e]; exact Nat.le_trans HWB.out HBZ.out))
          obtain ⟨lc, elc⟩ : ∃ lc, lc = (lk (t, h)).toArray := ⟨_, rfl⟩
          have hil : (Try.prog.info? 92).map (·.size) = some lc.size := by rw [elc, List.size_toArray, hlkl]; exact info33
          rw [← elc] at HZJ
          have HF1 := Lib.hid (show Try.prog.builtSlice 92 1 [(0, .agg lc)] = some lc by rw [elc]; exact built_one t h HHL.out)
          have HIL2 := Lib.hid hil
          have ELC := Lib.hid elc
          have HLK := Lib.hid hlkl
          have HSw := Lib.hid (show Bq ≤ wr.heap.size by have := (Array.getElem?_eq_some_iff.1 HZJ.out).1; have := HBZ.out; omega)
          have HPSw := Lib.hid (show ∀ k, v4.ownBlock = some k → k < wr.heap.size from fun k hk => (World.ownsRow.lt HPw.out k hk).2)
          clear hlt hj HK HRJ HUJ HP6 HO6 HB6 hrd hlkl elc hil
          go_upto_region 14 with fail
          refine wp_region_lit ?_
          refine Great.wpList_readTo rfl _ rfl vo rfl ?_
          refine wpList_load_row rfl 92 (.tmp 9) rfl z rfl 92 lc (0, 0) _ HZJ.out Try.underlying92 rfl HIL2.out ?_
          refine Great.wpList_buildSliceTo rfl 71 92 1 _ rfl wr.heap.size rfl (some 50) rfl Try.underlying71 lc (by simp only [List.map_toArray, List.map_cons, List.map_nil]; exact HF1.out) ?_
          refine append_any rfl (.tmp 48) (.tmp 50) 71 rfl Bq 92 (.agg (lk ([], hd0)).toArray) 33 48 Try.underlying71 infoLk (by kernel_rfl) (by omega) (by omega) vo i (lv (M.take i)) rfl (HOw.out.alloc _) (some ⟨wr.heap.size, 0, none⟩) 1 1 (lk (t, h)) rfl ?c1 ?c2 (lk_one _) ?c3 ?c4 ?_
          case c1 => rw [HLK.out]
          case c2 => rw [ELC.out]; exact RC_newL wr (lk (t, h)) _
          case c3 => have := HIL.out; have := HLN.out; omega
          case c4 => have := HSw.out; simp; omega
          intro v9 w9 ho9 hg9 hat9
          have hu9 : Upd (fun k => vo.ownBlock = some k) wr w9 := ((Upd.refl _ wr).alloc _).grown hg9 (fun k hk _ => hk)
          have HO9 := Lib.hid (show w9.ownsRow Bq 92 33 v9 (i + 1) (lv (M.take (i + 1))) by rw [HTK.out, lv_snoc]; exact ho9)
          have HP9 := Lib.hid (own_upd HPw.out hu9 (fun k hk e => HD4.out k e hk))
          have R10 := Lib.hid (R9.out.upd hu9 (fun e => by have := (World.ownsRow.lt HOw.out _ e).1; have := HQB.out; omega) (fun k hk e => by have := (World.ownsRow.lt HOw.out _ e).1; have := HVB.out k hk; omega))
          have HB9 := Lib.hid (below_upd HBw.out HBw.out.size hu9 (fun k hk => by have := (World.ownsRow.lt HOw.out k hk).1; have := HWB.out; omega))
          have HS9 := Lib.hid (show Bq ≤ w9.heap.size from Nat.le_trans HSw.out hu9.size)
          have HD9 := Lib.hid (show ∀ k, v9.ownBlock = some k → v4.ownBlock ≠ some k from fun k hk e => by
            rcases hat9 with h | h
            · exact HD4.out k (h ▸ hk) e
            · rw [h] at hk
              have h1 := HPSw.out k e
              simp at hk
              omega)
          clear ho9 hg9 hat9 hu9
          go_wp2_with fail
          go_step3
          refine ⟨rfl, ⟨i + 1, m, q, Bq, vq, v9, v4, _, _, rfl, rfl, by have := HIL.out; omega, R10.out, HO9.out, HP9.out, HQB.out, HVB.out, HWB.out, HD9.out, HS9.out, HB9.out⟩, by simp [intOf]⟩

end Go.Proofs.Ytjakhemolecbnaa
end

/-
  The walk of Check, of any chain.
-/
section
set_option linter.unusedVariables false
set_option linter.unusedSimpArgs false
namespace Go.Proofs.Ytjakhemolecbnaa
open Go.RowKit

/-- The link's head is that of what stands ahead of it and its text. -/
def goodAt (M : List (List UInt8 × List UInt8)) (i : Nat) : Bool := decide ((M.getD i ([], [])).2 = headOf ((M.take (i + 1)).map (·.1)))
/-- The first link whose head is wrong. -/
def checkOf (M : List (List UInt8 × List UInt8)) : Nat := ((List.range M.length).find? fun i => !goodAt M i).getD M.length
theorem checkOf_bad (M : List (List UInt8 × List UInt8)) (i : Nat) (hi : i < M.length) (h : ∀ j, j < i → goodAt M j = true) (hb : goodAt M i = false) : checkOf M = i := by
  have e : (List.range M.length).find? (fun i => !goodAt M i) = some i := by
    rw [List.find?_range_eq_some]
    exact ⟨by simp [hb], by simp [hi], fun j hj => by simp [h j hj]⟩
  rw [checkOf, e]
  rfl
theorem checkOf_good (M : List (List UInt8 × List UInt8)) (h : ∀ j, j < M.length → goodAt M j = true) : checkOf M = M.length := by
  have e : (List.range M.length).find? (fun i => !goodAt M i) = none := by
    rw [List.find?_eq_none]
    intro j hj
    simp [h j (List.mem_range.1 hj)]
  rw [checkOf, e]
  rfl
theorem checkOf_le (M : List (List UInt8 × List UInt8)) : checkOf M ≤ M.length := by
  unfold checkOf
  cases e : (List.range M.length).find? (fun i => !goodAt M i) with
  | none => simp
  | some i =>
    have := List.mem_range.1 (List.mem_of_find?_eq_some e)
    simp
    omega

set_option maxRecDepth 100000 in
set_option maxHeartbeats 8000000 in
theorem check_any (A : Option Addr) (n c : Nat) (M : List (List UInt8 × List UInt8)) (w : World) (hl : M.length = n) (hn : n ≤ 100000) (hs : ∀ x ∈ M, x.1.length ≤ 1000000) (hh : ∀ x ∈ M, x.2.length = 32) (hr : RC w A (lv M)) :
    Calls Try.prog 68 #[.slice A n c] w fun e w' => e = .returned (.int .i64 (checkOf M : Int)) ∧ Below w.heap.size w w' := by
  subst hl
  obtain ⟨K, eK⟩ : ∃ K, K = checkOf M := ⟨_, rfl⟩
  rw [← eK]
  have EK := Lib.hid eK
  have HH := Lib.hid hh
  clear eK hh
  have HL := Lib.hid hr
  have HSM := Lib.hid hs
  have HN := Lib.hid hn
  clear hr hs
  obtain ⟨z32, hz32⟩ : ∃ z32, z32 = (bv (List.replicate 32 0)).toArray := ⟨_, rfl⟩
  obtain ⟨z33, hz33⟩ : ∃ z33, z33 = (lk ([], hd0)).toArray := ⟨_, rfl⟩
  have HZ33 := Lib.hid hz33
  clear hz33
  go_enter Try.func68, Try.ntmps68
  go_upto_region 1 with fail
  refine wp_region_lit ?_
  refine Great.wpList_allocTo rfl _ rfl (.pointer (some ⟨w.heap.size, 0, none⟩)) (.cells z32 86) ?x1 ?_
  case x1 => rw [hz32]; kernel_rfl
  refine wpList_nil ?_
  rename_i hK
  refine hK _ _ ?_
  clear hK
  obtain ⟨w1, hw1⟩ : ∃ w1, w1 = w.alloc (.cells z32 86) := ⟨_, rfl⟩
  rw [← hw1]
  have HA1 := Lib.hid (show Arr w1 w.heap.size 86 (bv (headOf [])) by rw [hw1, hz32]; exact Arr.new _ _ _)
  have HB1 := Lib.hid (show Below w.heap.size w w1 by rw [hw1]; exact (Below.refl _ _).alloc (Nat.le_refl _) _)
  clear hw1 hz32
  go_wp2_with fail
  go_loopg [8] M.length (fun k s8 wr => ∃ i : Nat, i ≤ M.length ∧ k = M.length - i ∧ s8 = .int .i64 (i : Int) ∧ Arr wr w.heap.size 86 (bv (headOf ((M.take i).map (·.1)))) ∧ (∀ j, j < i → goodAt M j = true) ∧ Below w.heap.size w wr)
  case atStart => exact ⟨0, Nat.zero_le _, by omega, rfl, HA1.out, fun j hj => absurd hj (Nat.not_lt_zero _), HB1.out⟩
  case round =>
    obtain ⟨i, hi, hk, rfl, ha, hgd, hb⟩ := hrel
    have HK := Lib.hid hk
    have HGD := Lib.hid hgd
    have HA := Lib.hid ha
    have HB := Lib.hid hb
    clear hk ha hb hgd HA1 HB1
    by_cases hlt : i < M.length
    · obtain ⟨bl, ol, rfl, e1⟩ := HL.out.parts (by rw [lv_length _ HH.out]; omega)
      have hRG := lk_range HH.out (fun j u hj => cell_below HB.out (e1 j u hj)) i hlt
      have hxs : (M[i]).1.length ≤ 1000000 := HSM.out _ (List.getElem_mem hlt)
      have hgl : (M[i]).2.length = 32 := HH.out _ (List.getElem_mem hlt)
      have hT : (M.take (i + 1)).map (·.1) = (M.take i).map (·.1) ++ [(M[i]).1] := by rw [List.take_succ_eq_append_getElem hlt, List.map_append]; rfl
      have hq : goodAt M i = decide ((M[i]).2 = nextOf (headOf ((M.take i).map (·.1))) (M[i]).1) := by
        unfold goodAt
        rw [hT, headOf_snoc, List.getD_eq_getElem?_getD, List.getElem?_eq_getElem hlt]
        rfl
      have HT := Lib.hid (show headOf ((M.take (i + 1)).map (·.1)) = nextOf (headOf ((M.take i).map (·.1))) (M[i]).1 by rw [hT, headOf_snoc])
      generalize M[i] = xg at *
      obtain ⟨x, g⟩ := xg
      simp only at hxs hgl hq HT
      obtain ⟨hd, ehd⟩ : ∃ hd, hd = headOf ((M.take i).map (·.1)) := ⟨_, rfl⟩
      have hhl : hd.length = 32 := by rw [ehd]; exact headOf_length _
      rw [← ehd] at HA hq HT
      obtain ⟨h2, eh2⟩ : ∃ h2, h2 = nextOf hd x := ⟨_, rfl⟩
      have hhl2 : h2.length = 32 := by rw [eh2]; exact nextOf_length _ _
      rw [← eh2] at hq HT
      have hlkl := lk_length (x, g) hgl
      obtain ⟨lc, elc⟩ : ∃ lc, lc = lk (x, g) := ⟨_, rfl⟩
      have hfst : lc = .string (strB x) :: bv g := elc
      rw [← elc] at hlkl hRG
      have hil : (Try.prog.info? 92).map (·.size) = some lc.length := by rw [hlkl]; exact info33
      have hone : lc.toArray.all (·.oneCell') = true := by rw [elc]; exact all_oneCell_toArray (lk_one _)
      obtain ⟨hc, ehc⟩ : ∃ hc, hc = (bv hd).toArray := ⟨_, rfl⟩
      have hcs : hc.size = 32 := by rw [ehc, List.size_toArray, bv_length, hhl]
      have hcz : (Try.prog.info? 86).map (·.size) = some hc.size := by rw [hcs]; exact info72
      obtain ⟨hc2, ehc2⟩ : ∃ hc2, hc2 = (bv h2).toArray := ⟨_, rfl⟩
      have hcs2 : hc2.size = 32 := by rw [ehc2, List.size_toArray, bv_length, hhl2]
      have hcz2 : (Try.prog.info? 86).map (·.size) = some hc2.size := by rw [hcs2]; exact info72
      have hone2 : hc2.all (·.oneCell') = true := by rw [ehc2]; exact all_oneCell_toArray (bv_one _)
      obtain ⟨gc, egc⟩ : ∃ gc, gc = (bv g).toArray := ⟨_, rfl⟩
      obtain ⟨q, eq⟩ : ∃ q, q = goodAt M i := ⟨_, rfl⟩
      have HEQ := Lib.hid (show ∀ W, (Op.equalIn 10000 86 (.agg gc) (.agg hc2)).run Try.prog W = .ok q W by
        intro W
        rw [egc, ehc2, eq32 g h2 hgl hhl2, eq, hq])
      have EGC := Lib.hid egc
      have HGL := Lib.hid hgl
      have EQ := Lib.hid eq
      clear egc hgl eq hq hT
      have hi0 : (0 : Int) ≤ (i : Int) := by omega
      have hi1 : (i : Int) < (M.length : Int) := by omega
      have HXS := Lib.hid (show (strB x).size ≤ 1000000 by rw [strB_size]; exact hxs)
      have HLT := Lib.hid hlt
      have HRG := Lib.hid hRG
      have HIL := Lib.hid hil
      have HLKL := Lib.hid hlkl
      have HONE := Lib.hid hone
      have HFST := Lib.hid hfst
      have HHL := Lib.hid hhl
      have HHL2 := Lib.hid hhl2
      have EHC := Lib.hid ehc
      have HCS := Lib.hid hcs
      have HCZ := Lib.hid hcz
      have EHC2 := Lib.hid ehc2
      have HCS2 := Lib.hid hcs2
      have HCZ2 := Lib.hid hcz2
      have HONE2 := Lib.hid hone2
      have EH2 := Lib.hid eh2
      clear e1 hRG hxs ehd hhl eh2 hhl2 hlkl elc hfst hil hone ehc hcs hcz ehc2 hcs2 hcz2 hone2 hlt hi
      go_upto_region 4 with fail
      refine wp_region_lit ?_
      refine Great.wpList_readTo rfl _ rfl (.int .i64 (i : Int)) rfl ?_
      refine Great.wpList_readTo rfl _ rfl (.pointer (some ⟨bl, ol + i * 33, none⟩)) ?h1 ?_
      case h1 =>
        simp only [execOp]
        go_simp
      refine wpList_load_mid rfl 92 (.tmp 11) rfl bl (ol + i * 33) rfl lc _ HRG.out Try.underlying92 rfl HIL.out ?_
      obtain ⟨z, hz⟩ : ∃ z, z = wr.heap.size := ⟨_, rfl⟩
      refine Great.wpList_allocTo rfl _ rfl (.pointer (some ⟨z, 0, none⟩)) (.cells z33 92) ?h2 ?_
      case h2 => rw [HZ33.out, hz]; kernel_rfl
      refine Great.wpList_readTo rfl _ rfl (.int .i64 (i : Int)) rfl ?_
      refine wpList_store_row rfl 92 (.tmp 5) (.tmp 12) rfl z lc.toArray rfl rfl 92 z33 (by rw [hz]; exact heap_alloc_new wr _) (by rw [List.size_toArray]; exact HIL.out) (by rw [HZ33.out, List.size_toArray, List.size_toArray, HLKL.out]; rfl) HONE.out ?_
      refine wpList_nil ?_
      rename_i hK
      refine hK _ _ ?_
      clear hK
      obtain ⟨w5, hw5⟩ : ∃ w5, w5 = (wr.alloc (.cells z33 92)).setRow z lc.toArray := ⟨_, rfl⟩
      rw [← hw5]
      have hz5 : w5.heap[z]? = some (.cells lc.toArray 92) := by rw [hw5, hz]; exact setRow_heap _ _ _ _ _ _ (heap_alloc_new wr _)
      have cz : w5.cell? ⟨z, 0, none⟩ = some (.string (strB x)) := by
        rw [cell_of_row w5 z 0 _ _ _ hz5, HFST.out]
        rfl
      have HB5 := Lib.hid (show Below wr.heap.size wr w5 by rw [hw5]; exact below_setRow ((Below.refl _ _).alloc (Nat.le_refl _) _) _ _ (by omega))
      have HA5 := Lib.hid (show w5.heap[w.heap.size]? = some (.cells hc 86) from (HB5.out.block w.heap.size (Arr.lt HA.out)).trans (by rw [EHC.out]; exact HA.out))
      have HBB := Lib.hid (below_below HB.out HB.out.size HB5.out)
      have HZ5 := Lib.hid hz5
      have HZW := Lib.hid (show w.heap.size < z by rw [hz]; exact Arr.lt HA.out)
      clear hw5 hz5 hz HB5
      go_upto_region 5 with fail
      refine wp_region_lit ?_
      refine wpList_load_row rfl 86 (.tmp 3) rfl w.heap.size rfl 86 hc (0, 0) _ HA5.out Try.underlying86 rfl HCZ.out ?_
      go_wp2_with fail
      rw [EHC.out]
      refine (next_any hd (strB x) w5 HHL.out HXS.out).mono ?_
      rw [strB_toList, ← EH2.out, ← EHC2.out]
      rintro e w6 ⟨rfl, hb6⟩
      have HA6 := Lib.hid (show w6.heap[w.heap.size]? = some (.cells hc 86) from (hb6.block w.heap.size (Array.getElem?_eq_some_iff.1 HA5.out).1).trans HA5.out)
      have HZ6 := Lib.hid ((hb6.block z (Array.getElem?_eq_some_iff.1 HZ5.out).1).trans HZ5.out)
      have HB6 := Lib.hid (below_below HBB.out HBB.out.size hb6)
      clear hb6 cz
      go_upto_region 6 with (refine wpList_store_row rfl 86 (.tmp 3) (.tmp 16) rfl w.heap.size hc2 rfl rfl 86 hc HA6.out HCZ2.out (by rw [HCS.out, HCS2.out]) HONE2.out ?_)
      obtain ⟨w7, hw7⟩ : ∃ w7, w7 = w6.setRow w.heap.size hc2 := ⟨_, rfl⟩
      rw [← hw7]
      have HA7 := Lib.hid (show w7.heap[w.heap.size]? = some (.cells hc2 86) by rw [hw7]; exact setRow_heap _ _ _ _ _ _ HA6.out)
      have hZ7 : w7.heap[z]? = some (.cells lc.toArray 92) := by rw [hw7]; exact (setRow_other _ _ _ _ (by have := HZW.out; omega)).trans HZ6.out
      have HB7 := Lib.hid (show Below w.heap.size w w7 by rw [hw7]; exact below_setRow HB6.out _ _ (Nat.le_refl _))
      have HRZ := Lib.hid (show w7.rangeAt z 1 (bv g) by
        intro j v hj
        rw [cell_of_row w7 z (1 + j) _ _ _ hZ7, HFST.out, Nat.add_comm 1 j]
        simpa using hj)
      clear hw7 hZ7
      refine wp_region_lit ?_
      refine Great.wpList_readTo rfl _ rfl (.pointer (some ⟨z, 1, none⟩)) ?h3 ?_
      case h3 =>
        simp only [execOp]
        go_simp
      refine wpList_load_mid rfl 86 (.tmp 17) rfl z 1 rfl (bv g) _ HRZ.out Try.underlying86 rfl (by rw [bv_length, HGL.out]; exact info72) ?_
      rw [← EGC.out]
      refine wpList_load_row rfl 86 (.tmp 3) rfl w.heap.size rfl 86 hc2 (0, 0) _ HA7.out Try.underlying86 rfl HCZ2.out ?_
      refine Great.wpList_readTo rfl _ rfl (.bool (!q)) ?h4 ?_
      case h4 =>
        have ea : ∀ (a : Act), a.tmps.getD 18 undef = .agg gc → a.tmps.getD 19 undef = .agg hc2 → (execOp a.eval { dst := some 20, op := .binOp .neq 86 (.tmp 18) (.tmp 19) 86, type := 4, pos := "", after := #[], guard := none }).run Try.prog w7 = .ok (.value (.bool (!q))) w7 := by
          intro a h18 h19
          have h18' : a.eval (.tmp 18) = .agg gc := h18
          have h19' : a.eval (.tmp 19) = .agg hc2 := h19
          simp only [execOp, h18', h19', Sem.run_bind, run_eqGuard_agg w7 _ 86 _ _ _ _ (show Try.prog.eqGuardType Try.prog.depth 86 = false by kernel_rfl), run_neq_struct, HEQ.out w7, Result.andThen_ok, Sem.run_pure]
        exact ea _ rfl rfl
      refine wpList_nil ?_
      rename_i hK
      refine hK _ _ ?_
      clear hK
      cases q with
      | true =>
        go_wp2_with fail
        go_roundg (M.length - (i + 1))
        case measure => have := HK.out; have := HLT.out; omega
        case rel =>
          refine ⟨i + 1, HLT.out, rfl, by go_num, by rw [HT.out]; have h := HA7.out; rw [EHC2.out] at h; exact h, fun j hj => ?_, HB7.out⟩
          by_cases hji : j = i
          · rw [hji]; exact EQ.out.symm
          · exact HGD.out j (by omega)
      | false =>
        go_wp2_with fail
        go_ret
        exact ⟨by rw [EK.out, checkOf_bad M i HLT.out HGD.out EQ.out.symm]; rfl, HB7.out⟩
    · obtain rfl : i = M.length := by omega
      go_wp2_with fail
      go_ret
      exact ⟨by rw [EK.out, checkOf_good M HGD.out]; rfl, HB.out⟩

end Go.Proofs.Ytjakhemolecbnaa
end

/-
  The walk of Decode, of the chain, on the bytes of any links.
-/
section
set_option linter.unusedVariables false
set_option linter.unusedSimpArgs false
namespace Go.Proofs.Ytjakhemolecbnaa
open Go.RowKit

/-- Where the links begin, as numbers. -/
def pv (M : List (List UInt8 × List UInt8)) (i : Nat) : List Value := (List.range i).map fun j => Value.int .i64 (posOf M j : Int)
theorem pv_succ (M : List (List UInt8 × List UInt8)) (i : Nat) : pv M (i + 1) = pv M i ++ [.int .i64 (posOf M i : Int)] := by simp [pv, List.range_succ]
theorem pv_get (M : List (List UInt8 × List UInt8)) (i k : Nat) (h : k < i) : (pv M i)[k]? = some (.int .i64 (posOf M k : Int)) := by simp [pv, h]

set_option maxRecDepth 100000 in
set_option maxHeartbeats 16000000 in
theorem decode_any (A : Option Addr) (n c : Nat) (M : List (List UInt8 × List UInt8)) (w : World) (hl : (encOf M).length = n) (hMn : M.length ≤ 4000) (hMh : ∀ x ∈ M, x.2.length = 32) (hMt : ∀ x ∈ M, x.1.length ≤ 4000) (hr : RB w A (encOf M)) (hnil : A = none → c = 0) :
    Calls Try.prog 36 #[.slice A n c] w fun e w' => Below w.heap.size w w' ∧
      ((checkOf M = M.length ∧ ∃ v, e = .returned (.tuple #[v, .int .i64 0, .int .i64 0]) ∧ w'.ownsRow w.heap.size 92 33 v M.length (lv M)) ∨
       (checkOf M < M.length ∧ e = .returned (.tuple #[.slice none 0 0, .int .i64 12, .int .i64 (posOf M (checkOf M) : Int)]))) := by
  subst hl
  have HR := Lib.hid hr
  have HNIL := Lib.hid hnil
  have HSM := Lib.hid (show ∀ x ∈ M, x.1.length ≤ 1000000 from fun x hx => by have := hMt x hx; omega)
  have hLn := hMn
  obtain ⟨N, eN⟩ : ∃ N, N = M.length := ⟨_, rfl⟩
  have hMl : M.length = N := eN.symm
  rw [← eN] at hLn ⊢
  obtain ⟨l, el⟩ : ∃ l, l = encOf M := ⟨_, rfl⟩
  have hll : l.length ≤ 17000000 := by
    have h1 := encL_bound M hMh hMt
    rw [el, encOf, List.length_append, be4n_length]
    omega
  have h4 : four (l.drop 0) = N := by
    rw [List.drop_zero, el, encOf, hMl]
    exact four_be4 _ (by omega) _
  have hl4 : 0 + 4 ≤ l.length := by rw [el, encOf, List.length_append, be4n_length]; omega
  have hpz : posOf M 0 = 0 + 4 := posOf_zero M
  have hpa : posOf M N = l.length := by rw [← hMl, posOf_all, el]
  have hfit : ∀ i, (h : i < M.length) → ∃ t h2 r, M[i] = (t, h2) ∧ t.length ≤ 4000 ∧ h2.length = 32 ∧ l.drop (posOf M i) = be4n t.length ++ (t ++ (h2 ++ r)) ∧ posOf M (i + 1) = posOf M i + 4 + t.length + 32 := by
    intro i h
    obtain ⟨r, er⟩ := enc_at M i h
    exact ⟨(M[i]).1, (M[i]).2, r, rfl, hMt _ (List.getElem_mem h), hMh _ (List.getElem_mem h), by rw [el]; exact er, posOf_succ M i h (hMh _ (List.getElem_mem h))⟩
  have hmono : ∀ i, i ≤ N → posOf M i ≤ l.length := by
    intro i hi
    rw [el]
    unfold posOf encOf
    rw [List.length_append, be4n_length, encL_split M i, List.length_append]
    omega
  rw [← el] at HR ⊢
  have HLL := Lib.hid hll
  have H4 := Lib.hid h4
  have HL4 := Lib.hid hl4
  have HPZ := Lib.hid hpz
  have HPA := Lib.hid hpa
  have HFIT := Lib.hid hfit
  have HMONO := Lib.hid hmono
  have HML := Lib.hid hMl
  have HMH := Lib.hid hMh
  have HLN := Lib.hid hLn
  have EN := Lib.hid eN
  clear hr hnil hMl hMh hMt hMn eN hLn el hll h4 hl4 hpz hpa hfit hmono
  obtain ⟨z33, hz33⟩ : ∃ z33, z33 = (lk ([], hd0)).toArray := ⟨_, rfl⟩
  have HZ33 := Lib.hid hz33
  clear hz33
  go_enter Try.func36, Try.ntmps36
  go_wp2_with fail
  refine wp_scope_loop 0 (fun a' w' => ∃ (i lf q Bq : Nat) (vq vo vp : Value) (t : List Value),
    a' = { tmps := (.slice A l.length c :: undef :: .slice none 0 0 :: .int .i64 0 :: .int .i64 0 :: .pointer (some ⟨q, 0, none⟩) :: vo :: vp :: .int .i64 (lf : Int) :: t).toArray, defers := [] } ∧ t.length = 67 ∧
    i + lf = N ∧ ReaderAt w' w.heap.size q vq l (posOf M i) ∧ w'.ownsRow Bq 92 33 vo i (lv (M.take i)) ∧ w'.ownsRow Bq 3 1 vp i (pv M i) ∧ q < Bq ∧ (∀ k, vq.ownBlock = some k → k < Bq) ∧ w.heap.size ≤ Bq ∧ (∀ k, vo.ownBlock = some k → vp.ownBlock ≠ some k) ∧ Bq ≤ w'.heap.size ∧ Below w.heap.size w w')
    (fun a' _ => (intOf (a'.tmps.getD 8 undef)).toNat) rfl ?pass ?first
  case first =>
    intro hrest
    go_wp2_with fail
    refine (newReader_any A l.length c l _ rfl (by have := HLL.out; omega) HR.out HNIL.out).mono ?_
    rintro e w1 ⟨q, vq, rfl, hw, hb⟩
    have R1 := Lib.hid hw
    have B1 := Lib.hid hb
    clear hw hb
    go_wp2_with fail
    refine (readerCount2_any _ _ _ _ _ _ R1.out HL4.out (by have := HLL.out; omega) 4096 N H4.out (by have := HLN.out; omega) (by omega)).mono ?_
    rintro e w2 ⟨rfl, hw, hu⟩
    have hlq := R1.out.lt
    have hlv : ∀ k, vq.ownBlock = some k → k < w1.heap.size := fun k hk => (World.ownsRow.lt R1.out.own k hk).2
    have B2 := Lib.hid (below_upd B1.out B1.out.size hu (fun k hk => by rw [hk]; exact R1.out.base))
    have hsz := hu.size
    have R2 := Lib.hid hw
    have hsB := B1.out.size
    clear hw hu
    go_wp2_with fail
    go_step3
    rename_i hK
    refine hK _ _ (hrest _ _ ?_)
    exact ⟨0, N, q, w1.heap.size, vq, _, _, _, rfl, rfl, by omega, by rw [HPZ.out]; exact R2.out, World.ownsRow_nil _ _ _ _, World.ownsRow_nil _ _ _ _, hlq, hlv, hsB, fun k hk => by simp [Value.ownBlock] at hk, hsz, B2.out⟩
  case pass =>
    rintro a' w' ⟨i, lf, q, Bq, vq, vo, vp, tl, rfl, htl0, hil, hrd, ho, hp, hqB, hvB, hwB, hdis, hBs, hb⟩
    obtain ⟨u, rfl⟩ := tail67 tl htl0
    clear htl0
    have HIL := Lib.hid hil
    have HRD := Lib.hid hrd
    have HO := Lib.hid ho
    have HP := Lib.hid hp
    have HQB := Lib.hid hqB
    have HVB := Lib.hid hvB
    have HWB := Lib.hid hwB
    have HDIS := Lib.hid hdis
    have HBS := Lib.hid hBs
    have HB := Lib.hid hb
    clear hil hrd ho hp hqB hvB hwB hdis hBs hb
    by_cases h0 : lf = 0
    · subst h0
      have hi : i = N := by have := HIL.out; omega
      subst hi
      rw [List.take_of_length_le (by rw [HML.out]; exact Nat.le_refl _)] at HO
      rw [HPA.out] at HRD
      go_wp2_with fail
      refine (readerEnd2_any _ _ _ _ _ _ HRD.out rfl (by have := HLL.out; omega)).mono ?_
      rintro e w2 ⟨rfl, hw, hu⟩
      have hu0 := hu
      have ho2 := own_upd HO.out hu (fun k hk e => by have := (World.ownsRow.lt HO.out k hk).1; have := HQB.out; omega)
      have hb2 := below_upd HB.out HB.out.size hu (fun k hk => by rw [hk]; exact HRD.out.base)
      obtain ⟨Ao, co, rfl, _⟩ := own_slice ho2
      have HO2 := Lib.hid ho2
      have HB2 := Lib.hid hb2
      clear ho2 hb2 hw hu
      go_wp2_with fail
      have hp2 := own_upd HP.out hu0 (fun k hk e => by have := (World.ownsRow.lt HP.out k hk).1; have := HQB.out; omega)
      have HP2 := Lib.hid hp2
      clear hp2 hu0
      obtain ⟨K, eK⟩ : ∃ K, K = checkOf M := ⟨_, rfl⟩
      have hKl : K ≤ i := by rw [eK]; have := checkOf_le M; have := HML.out; omega
      refine (check_any Ao i co M w2 HML.out (by have := HLN.out; omega) HSM.out HMH.out (own_RC HO2.out)).mono ?_
      rw [← eK]
      rintro e w3 ⟨rfl, hb3⟩
      have HO3 := Lib.hid (own_below HO2.out hb3)
      have HP3 := Lib.hid (own_below HP2.out hb3)
      have HB3 := Lib.hid (below_below HB2.out HB2.out.size hb3)
      have HEK := Lib.hid eK
      clear hb3 eK
      by_cases hKi : K < i
      · obtain ⟨gp, cp, rfl, _, _⟩ := own_form HP3.out (by omega)
        have kp : w3.cell? ⟨gp, K, none⟩ = some (.int .i64 (posOf M K : Int)) := by
          have hlp : 0 < (pv M i).length := by simp [pv]; omega
          obtain ⟨ad, e7, hc7⟩ := own_RC HP3.out hlp
          cases e7
          have := hc7 K _ (pv_get M i K hKi)
          rwa [add_off, Nat.zero_add] at this
        have hK0 : (0 : Int) ≤ (K : Int) := by omega
        have hK1 : (K : Int) < (i : Int) := by omega
        have HKI := Lib.hid hKi
        clear hKi hKl
        go_upto_region 22 with fail
        go_region
        all_goals
          go_wp2_with fail
          simp only [Exit.jump]
          go_ret3
          exact ⟨HB3.out.drew, .inr ⟨by rw [← HEK.out]; exact HKI.out, by rw [← HEK.out]; rfl⟩⟩
      · obtain rfl : K = i := by omega
        clear hKi hKl
        go_wp2_with fail
        simp only [Exit.jump]
        go_ret3
        exact ⟨HB3.out, .inl ⟨HEK.out.symm, _, rfl, own_lower HO3.out HWB.out⟩⟩
    · obtain ⟨m, rfl⟩ : ∃ m, lf = m + 1 := ⟨lf - 1, by omega⟩
      have hiM : i < M.length := by rw [HML.out]; have := HIL.out; omega
      obtain ⟨t, h, r, eMi, htl, hhl, ed, epos⟩ := HFIT.out i hiM
      have hpl := HMONO.out (i + 1) (by have := HIL.out; omega)
      have HTK := Lib.hid (show M.take (i + 1) = M.take i ++ [(t, h)] by rw [List.take_succ_eq_append_getElem hiM, eMi])
      have HF := Lib.hid (enc_four l _ t h r htl ed)
      have HTX := Lib.hid (enc_text l _ t h r ed)
      have HBY := Lib.hid (show ∀ j : Nat, j < 32 → bt l (posOf M i + 4 + t.length + j) = bt h j from fun j hj => enc_byte l _ t h r ed j (by omega))
      rw [epos] at hpl
      have EP := Lib.hid epos
      obtain ⟨a, ea⟩ : ∃ a, a = posOf M i := ⟨_, rfl⟩
      rw [← ea] at HRD HF HTX HBY hpl EP
      have EAA := Lib.hid ea
      have HPL := Lib.hid hpl
      have HTL := Lib.hid htl
      have HHL := Lib.hid hhl
      have hll := HLL.out
      have hla : a ≤ l.length := by omega
      have hlz : (0 : Int) < ((l.length - a : Nat) : Int) := by omega
      have hmN : (m : Int) ≤ 4000 := by have := HIL.out; have := HLN.out; omega
      have hlc : (l.length : Int) ≤ 17000000 := by omega
      clear h0 hiM eMi htl hhl ed epos ea hpl
      have HLA := Lib.hid hla
      have HLLL := Lib.hid hll
      clear hla hll
      go_wp2_with fail
      refine (readerLeft2_any _ _ _ _ _ _ HRD.out HLA.out (by have := HLLL.out; omega)).mono ?_
      rintro e w2 ⟨rfl, hw, hu⟩
      have R2 := Lib.hid hw
      have U2 := Lib.hid hu
      clear hw hu
      obtain ⟨la, ela⟩ : ∃ la, la = l.length - a := ⟨_, rfl⟩
      rw [← ela] at hlz ⊢
      have ELA := Lib.hid ela
      have hla2 : (la : Int) ≤ 17000000 := by omega
      have EPA := Lib.hid (show (l.length : Int) - (la : Int) = (posOf M i : Int) by have := HLA.out; rw [← EAA.out]; omega)
      clear ela
      go_wp2_with fail
      refine (readerLeft2_any _ _ _ _ _ _ R2.out HLA.out (by have := HLLL.out; omega)).mono ?_
      rw [← ELA.out]
      rintro e w3 ⟨rfl, hw, hu⟩
      have R3 := Lib.hid hw
      have hu3 := U2.out.trans hu (fun _ _ h => h)
      have HP3 := Lib.hid (own_upd HP.out hu3 (fun k hk e => by have := (World.ownsRow.lt HP.out k hk).1; have := HQB.out; omega))
      have HO3 := Lib.hid (own_upd HO.out hu3 (fun k hk e => by have := (World.ownsRow.lt HO.out k hk).1; have := HQB.out; omega))
      have HB3 := Lib.hid (below_upd HB.out HB.out.size hu3 (fun k hk => by rw [hk]; exact HRD.out.base))
      have HS3 := Lib.hid (show Bq ≤ w3.heap.size from Nat.le_trans HBS.out hu3.size)
      have HVL := Lib.hid (show ∀ k, vo.ownBlock = some k → k < w3.heap.size from fun k hk => (World.ownsRow.lt HO3.out k hk).2)
      clear hw hu hu3 U2
      go_wp2_with (at_builtin; refine append_any rfl _ _ 22 rfl Bq 3 (.int .i64 0) 1 8 Try.underlying22 infoI rfl (by omega) (by omega) vp i (pv M i) rfl (HP3.out.alloc _) _ 1 _ [.int .i64 ((l.length : Int) - (la : Int))] rfl rfl (RC_newL _ [.int .i64 ((l.length : Int) - (la : Int))] 3) (by intro u hu; simp at hu; rw [hu]; rfl) ?c1 ?c2 ?_)
      case c1 => have := HIL.out; have := HLN.out; omega
      case c2 => have := HS3.out; simp; omega
      intro v4 w4 ho4 hg4 hat4
      have hu4 : Upd (fun k => vp.ownBlock = some k) w3 w4 := ((Upd.refl _ w3).alloc _).grown hg4 (fun k hk _ => hk)
      have HP4 := Lib.hid (show w4.ownsRow Bq 3 1 v4 (i + 1) (pv M (i + 1)) by rw [pv_succ, ← EPA.out]; exact ho4)
      have HO4 := Lib.hid (own_upd HO3.out hu4 (fun k hk e => HDIS.out k hk e))
      have R4 := Lib.hid (R3.out.upd hu4 (fun e => by have := (World.ownsRow.lt HP3.out _ e).1; have := HQB.out; omega) (fun k hk e => by have := (World.ownsRow.lt HP3.out _ e).1; have := HVB.out k hk; omega))
      have HB4 := Lib.hid (below_upd HB3.out HB3.out.size hu4 (fun k hk => by have := (World.ownsRow.lt HP3.out k hk).1; have := HWB.out; omega))
      have HS4 := Lib.hid (show w3.heap.size ≤ w4.heap.size from hu4.size)
      have HD4 := Lib.hid (show ∀ k, vo.ownBlock = some k → v4.ownBlock ≠ some k from fun k hk e => by
        rcases hat4 with h | h
        · exact HDIS.out k hk (h ▸ e)
        · rw [h] at e
          have h1 := HVL.out k hk
          simp at e
          omega)
      clear ho4 hg4 hat4 hu4 HP3 HO3 HB3 R3 R2
      go_wp2_with fail
      refine (readerText2_any _ _ _ _ _ _ R4.out (by have := HLLL.out; omega) 4000 t.length HF.out HTL.out (by omega) (by have := HPL.out; omega)).mono ?_
      rw [HTX.out]
      rintro e w5 ⟨rfl, hw, hu⟩
      have R5 := Lib.hid hw
      have HP5 := Lib.hid (own_upd HP4.out hu (fun k hk e => by have := (World.ownsRow.lt HP4.out k hk).1; have := HQB.out; omega))
      have HO5 := Lib.hid (own_upd HO4.out hu (fun k hk e => by have := (World.ownsRow.lt HO4.out k hk).1; have := HQB.out; omega))
      have HB5 := Lib.hid (below_upd HB4.out HB4.out.size hu (fun k hk => by rw [hk]; exact R4.out.base))
      have HS5 := Lib.hid (show Bq ≤ w5.heap.size from Nat.le_trans (Nat.le_trans HS3.out HS4.out) hu.size)
      clear hw hu HP4 HO4 HB4 R4 HS3 HS4 HVL
      go_upto_region 9 with (refine wpList_store_row rfl 92 (.tmp 9) (.tmp 37) rfl w5.heap.size (lk (t, hd0)).toArray rfl (by rfl) 92 _ (heap_alloc_new w5 _) (by kernel_rfl) (by kernel_rfl) (all_oneCell_toArray (lk_one _)) ?_)
      obtain ⟨z, hz⟩ : ∃ z, z = w5.heap.size := ⟨_, rfl⟩
      rw [← hz]
      have hBz : Bq ≤ z := by rw [hz]; exact HS5.out
      generalize hw6 : World.setRow (World.alloc w5 _) z _ = w6
      have hz6 : w6.heap[z]? = some (.cells (lk (t, hpB h 0)).toArray 92) := by rw [← hw6, hz, hpB_zero]; exact setRow_heap _ _ _ _ _ _ (heap_alloc_new w5 _)
      have hb56 : Below w5.heap.size w5 w6 := by rw [← hw6, hz]; exact below_setRow ((Below.refl _ _).alloc (Nat.le_refl _) _) _ _ (Nat.le_refl _)
      have R6 := Lib.hid (R5.out.below hb56)
      have HP6 := Lib.hid (own_below HP5.out hb56)
      have HO6 := Lib.hid (own_below HO5.out hb56)
      have HB6 := Lib.hid (below_below HB5.out HB5.out.size hb56)
      have HZ6 := Lib.hid hz6
      have HBZ := Lib.hid hBz
      have HVZ := Lib.hid (show ∀ k, vo.ownBlock = some k → k ≠ z from fun k hk e => by have := (World.ownsRow.lt HO5.out k hk).2; omega)
      have HPZ2 := Lib.hid (show ∀ k, v4.ownBlock = some k → k ≠ z from fun k hk e => by have := (World.ownsRow.lt HP5.out k hk).2; omega)
      clear hw6 hz6 hb56 hBz hz R5 HP5 HO5 HB5 HS5
      go_wp2_with fail
      go_loopg [38] 32 (fun k s38 wr => ∃ j : Nat, j ≤ 32 ∧ k = 32 - j ∧ s38 = .int .i64 (j : Int) ∧ ReaderAt wr w.heap.size q vq l (a + 4 + t.length + j) ∧ wr.heap[z]? = some (.cells (lk (t, hpB h j)).toArray 92) ∧ Upd (fun k => k = q ∨ k = z) w6 wr)
      case atStart => exact ⟨0, Nat.zero_le _, by omega, rfl, R6.out, HZ6.out, Upd.refl _ _⟩
      case round =>
        obtain ⟨j, hj, hk, rfl, hrd, hzc, hu⟩ := hrel
        have HK := Lib.hid hk
        have HRJ := Lib.hid hrd
        have HZJ := Lib.hid hzc
        have HUJ := Lib.hid hu
        clear hk hrd hzc hu R6 HZ6
        by_cases hlt : j < 32
        · have HBJ := Lib.hid (HBY.out j hlt)
          have HNX := Lib.hid (hpB_succ h j HHL.out hlt)
          have hol : (lk (t, hpB h j)).length = 33 := lk_length _ (hpB_length h j HHL.out hj)
          obtain ⟨ov, hov⟩ : ∃ ov, (lk (t, hpB h j))[1 + j]? = some ov := ⟨_, List.getElem?_eq_getElem (by rw [hol]; omega)⟩
          have HOV := Lib.hid hov
          generalize bt h j = y at *
          have hj0 : (0 : Int) ≤ (j : Int) := by omega
          have hj1 : (j : Int) < 32 := by omega
          have HLT := Lib.hid hlt
          clear hol hov hlt hj
          go_wp2_with fail
          refine (readerByte2_any _ _ _ _ _ _ HRJ.out (by have := HPL.out; have := HLT.out; omega) (by have := HLLL.out; omega)).mono ?_
          rw [HBJ.out]
          rintro e w8 ⟨rfl, hw, hu⟩
          have hqz : q ≠ z := by have := HQB.out; have := HBZ.out; omega
          have hz8 : w8.heap[z]? = some (.cells (lk (t, hpB h j)).toArray 92) := (hu.block z (Array.getElem?_eq_some_iff.1 HZJ.out).1 (fun e => hqz e.symm)).trans HZJ.out
          have cz : w8.cell? ⟨z, 1 + j, none⟩ = some ov := by
            rw [cell_of_row w8 z (1 + j) _ _ _ hz8]
            simpa using HOV.out
          have fz := lk_frozen hz8 (1 + j)
          have hwy : IntKind.u8.wrap (un8 y) = un8 y := by have := un8_range y; rw [IntKind.wrap_u8]; omega
          have R8 := Lib.hid hw
          have HZ8 := Lib.hid hz8
          have HU8 := Lib.hid (show Upd (fun k => k = q ∨ k = z) w6 w8 from HUJ.out.trans hu (fun _ _ h => .inl h))
          have HQZ := Lib.hid hqz
          clear hw hu hqz hz8
          go_wp2_with fail
          go_roundg (32 - (j + 1))
          case measure => have := HK.out; have := HLT.out; omega
          case rel =>
            have hst : Upd (fun k => k = z) w8 (w8.setCell ⟨z, 1 + j, none⟩ (.int .u8 (un8 y))) := (Upd.refl (fun k => k = z) w8).setCell (fun _ => rfl) _
            refine ⟨j + 1, HLT.out, rfl, by go_num, ?_, ?_, HU8.out.trans hst (fun _ _ h => .inr h)⟩
            · rw [show a + 4 + t.length + (j + 1) = a + 4 + t.length + j + 1 by omega]
              exact R8.out.upd hst HQZ.out (fun k hk e => by have := HVB.out k hk; have := HBZ.out; omega)
            · rw [setCell_at HZ8.out, List.setIfInBounds_toArray, lk_set, HNX.out]
        · obtain rfl : j = 32 := by omega
          rw [hpB_done h HHL.out] at HZJ
          have hrd := HRJ.out
          rw [← EP.out] at hrd
          have R9 := Lib.hid hrd
          have hlkl := lk_length (t, h) HHL.out
          have HPw := Lib.hid (own_upd HP6.out HUJ.out (fun k hk e => e.elim (fun e => by have := (World.ownsRow.lt HP6.out k hk).1; have := HQB.out; omega) (HPZ2.out k hk)))
          have HOw := Lib.hid (own_upd HO6.out HUJ.out (fun k hk e => e.elim (fun e => by have := (World.ownsRow.lt HO6.out k hk).1; have := HQB.out; omega) (HVZ.out k hk)))
          have HBw := Lib.hid (below_upd HB6.out HB6.out.size HUJ.out (fun k hk => by
            rcases hk with e | e
            · rw [e]; exact HRD.out.base
            · rw [e]; exact Nat.le_trans HWB.out HBZ.out))
          obtain ⟨lc, elc⟩ : ∃ lc, lc = (lk (t, h)).toArray := ⟨_, rfl⟩
          have hil : (Try.prog.info? 92).map (·.size) = some lc.size := by rw [elc, List.size_toArray, hlkl]; exact info33
          rw [← elc] at HZJ
          have HF1 := Lib.hid (show Try.prog.builtSlice 92 1 [(0, .agg lc)] = some lc by rw [elc]; exact built_one t h HHL.out)
          have HIL2 := Lib.hid hil
          have ELC := Lib.hid elc
          have HLK := Lib.hid hlkl
          have HSw := Lib.hid (show Bq ≤ wr.heap.size by have := (Array.getElem?_eq_some_iff.1 HZJ.out).1; have := HBZ.out; omega)
          have HPSw := Lib.hid (show ∀ k, v4.ownBlock = some k → k < wr.heap.size from fun k hk => (World.ownsRow.lt HPw.out k hk).2)
          clear hlt hj HK HRJ HUJ HP6 HO6 HB6 hrd hlkl elc hil
          go_upto_region 14 with fail
          refine wp_region_lit ?_
          refine Great.wpList_readTo rfl _ rfl vo rfl ?_
          refine wpList_load_row rfl 92 (.tmp 9) rfl z rfl 92 lc (0, 0) _ HZJ.out Try.underlying92 rfl HIL2.out ?_
          refine Great.wpList_buildSliceTo rfl 71 92 1 _ rfl wr.heap.size rfl (some 50) rfl Try.underlying71 lc (by simp only [List.map_toArray, List.map_cons, List.map_nil]; exact HF1.out) ?_
          refine append_any rfl (.tmp 48) (.tmp 50) 71 rfl Bq 92 (.agg (lk ([], hd0)).toArray) 33 48 Try.underlying71 infoLk (by kernel_rfl) (by omega) (by omega) vo i (lv (M.take i)) rfl (HOw.out.alloc _) (some ⟨wr.heap.size, 0, none⟩) 1 1 (lk (t, h)) rfl ?c1 ?c2 (lk_one _) ?c3 ?c4 ?_
          case c1 => rw [HLK.out]
          case c2 => rw [ELC.out]; exact RC_newL wr (lk (t, h)) _
          case c3 => have := HIL.out; have := HLN.out; omega
          case c4 => have := HSw.out; simp; omega
          intro v9 w9 ho9 hg9 hat9
          have hu9 : Upd (fun k => vo.ownBlock = some k) wr w9 := ((Upd.refl _ wr).alloc _).grown hg9 (fun k hk _ => hk)
          have HO9 := Lib.hid (show w9.ownsRow Bq 92 33 v9 (i + 1) (lv (M.take (i + 1))) by rw [HTK.out, lv_snoc]; exact ho9)
          have HP9 := Lib.hid (own_upd HPw.out hu9 (fun k hk e => HD4.out k e hk))
          have R10 := Lib.hid (R9.out.upd hu9 (fun e => by have := (World.ownsRow.lt HOw.out _ e).1; have := HQB.out; omega) (fun k hk e => by have := (World.ownsRow.lt HOw.out _ e).1; have := HVB.out k hk; omega))
          have HB9 := Lib.hid (below_upd HBw.out HBw.out.size hu9 (fun k hk => by have := (World.ownsRow.lt HOw.out k hk).1; have := HWB.out; omega))
          have HS9 := Lib.hid (show Bq ≤ w9.heap.size from Nat.le_trans HSw.out hu9.size)
          have HD9 := Lib.hid (show ∀ k, v9.ownBlock = some k → v4.ownBlock ≠ some k from fun k hk e => by
            rcases hat9 with h | h
            · exact HD4.out k (h ▸ hk) e
            · rw [h] at hk
              have h1 := HPSw.out k e
              simp at hk
              omega)
          clear ho9 hg9 hat9 hu9
          go_wp2_with fail
          go_step3
          refine ⟨rfl, ⟨i + 1, m, q, Bq, vq, v9, v4, _, rfl, rfl, by have := HIL.out; omega, R10.out, HO9.out, HP9.out, HQB.out, HVB.out, HWB.out, HD9.out, HS9.out, HB9.out⟩, by simp [intOf]⟩

end Go.Proofs.Ytjakhemolecbnaa
end

/-
  The walks of a reader, where something is refused; and of Decode there.
-/
section
set_option linter.unusedVariables false
set_option linter.unusedSimpArgs false
namespace Go.Proofs.Ytjakhemolecbnaa
open Go.RowKit

/-- A reader that has refused. -/
def BadAt (w : World) (p : Nat) (v : Value) (a : Nat) (why en : Int) : Prop := w.heap[p]? = some (.cells #[v, .int .i64 (a : Int), .int .i64 why, .int .i64 en] 127 (0, 0))
namespace BadAt
variable {w : World} {p a : Nat} {v : Value} {why en : Int}
theorem lt (h : BadAt w p v a why en) : p < w.heap.size := (Array.getElem?_eq_some_iff.1 h).1
theorem c0 (h : BadAt w p v a why en) : w.cell? ⟨p, 0, none⟩ = some v := by rw [cell_of_row w p 0 _ _ _ h]; rfl
theorem c1 (h : BadAt w p v a why en) : w.cell? ⟨p, 1, none⟩ = some (.int .i64 (a : Int)) := by rw [cell_of_row w p 1 _ _ _ h]; rfl
theorem c2 (h : BadAt w p v a why en) : w.cell? ⟨p, 2, none⟩ = some (.int .i64 why) := by rw [cell_of_row w p 2 _ _ _ h]; rfl
theorem c3 (h : BadAt w p v a why en) : w.cell? ⟨p, 3, none⟩ = some (.int .i64 en) := by rw [cell_of_row w p 3 _ _ _ h]; rfl
theorem upd {F : Nat → Prop} {w' : World} (h : BadAt w p v a why en) (u : Upd F w w') (hp : ¬ F p) : BadAt w' p v a why en := (u.block p h.lt hp).trans h
end BadAt

set_option maxHeartbeats 1000000 in
theorem refuse_any (w : World) (B p : Nat) (v : Value) (l : List UInt8) (a : Nat) (h : ReaderAt w B p v l a) (why en : Int) :
    Calls Try.prog 84 #[.pointer (some ⟨p, 0, none⟩), .int .i64 why, .int .i64 en] w fun e w' => e = .returned (.tuple #[]) ∧ BadAt w' p v a why en ∧ Upd (fun k => k = p) w w' := by
  have k2 := h.c2
  have hk3 : w.cell? ⟨p, 3, none⟩ = some (.int .i64 0) := by rw [cell_of_row w p 3 _ _ _ h.at_]; rfl
  have f2 := h.f0 2
  have f3 := h.f0 3
  have H := Lib.hid h
  clear h
  go_enter Try.func84, Try.ntmps84
  go_wp2_with fail
  go_end0
  refine ⟨rfl, ?_, ((Upd.refl (fun k => k = p) w).setCell (fun _ => rfl) _).setCell (fun _ => rfl) _⟩
  exact (setCell_at (setCell_at H.out.at_ _) _).trans rfl

set_option maxHeartbeats 1000000 in
/-- A count that is too long. -/
theorem countLong_any (w : World) (B p : Nat) (v : Value) (l : List UInt8) (a : Nat) (h : ReaderAt w B p v l a) (hn : a + 4 ≤ l.length) (hl : l.length ≤ 100000000) (most m : Nat) (hm : four (l.drop a) = m) (hmm : most < m) (hmo : most ≤ 100000) :
    Calls Try.prog 66 #[.pointer (some ⟨p, 0, none⟩), .int .i64 (most : Int)] w fun e w' => e = .returned (.int .i64 0) ∧ BadAt w' p v (a + 4) 3 (a : Int) ∧ Upd (fun k => k = p) w w' := by
  have H := Lib.hid h
  have k1 := h.c1
  have HM := Lib.hid hm
  clear h hm
  go_enter Try.func66, Try.ntmps66
  go_wp2_with fail
  refine (readerFour2_any w B p v l a H.out hn hl).mono ?_
  rw [HM.out]
  rintro e w1 ⟨rfl, hw, hb⟩
  have H1 := Lib.hid hw
  have HB := Lib.hid hb
  clear hw hb
  have hmx : max (most : Int) 0 = (most : Int) := by omega
  have hgt : (most : Int) < (m : Int) := by omega
  go_wp2_with fail
  refine (refuse_any w1 B p v l (a + 4) H1.out 3 (a : Int)).mono ?_
  rintro e w2 ⟨rfl, hw, hu⟩
  have k2 := hw.c2
  have H2 := Lib.hid hw
  have HB2 := Lib.hid (HB.out.trans hu (fun _ _ h => h))
  clear hw hu
  go_wp2_with fail
  go_ret
  exact ⟨rfl, H2.out, HB2.out⟩

set_option maxHeartbeats 1000000 in
theorem takeShort_any (w : World) (B p : Nat) (v : Value) (l : List UInt8) (a : Nat) (h : ReaderAt w B p v l a) (n : Nat) (ha : a ≤ l.length) (hn : l.length < a + n) (hl : l.length ≤ 100000000) (hn2 : n ≤ 100000) :
    Calls Try.prog 71 #[.pointer (some ⟨p, 0, none⟩), .int .i64 (n : Int)] w fun e w' => e = .returned (.slice none 0 0) ∧ BadAt w' p v a 10 (l.length : Int) ∧ Upd (fun k => k = p) w w' := by
  obtain ⟨A, c, rfl, _⟩ := own_slice h.own
  have k0 := h.c0
  have k1 := h.c1
  have k2 := h.c2
  have H := Lib.hid h
  clear h
  have hw1 : IntKind.i64.wrap ((l.length : Int) - (a : Int)) = (l.length : Int) - (a : Int) := by rw [IntKind.wrap_i64]; omega
  have hw2 : (l.length : Int) - (a : Int) < (n : Int) := by omega
  go_enter Try.func71, Try.ntmps71
  go_wp2_with fail
  go_region
  go_wp2_with fail
  refine (refuse_any w.drew B p _ l a H.out.drew 10 (l.length : Int)).mono ?_
  rintro e w2 ⟨rfl, hw, hu⟩
  have H2 := Lib.hid hw
  have HU := Lib.hid ((Upd.refl (fun k => k = p) w).drew.trans hu (fun _ _ h => h))
  clear hw hu
  go_wp2_with fail
  go_ret
  exact ⟨rfl, H2.out, HU.out⟩

set_option maxHeartbeats 4000000 in
theorem getShort_any (w : World) (B p : Nat) (v : Value) (l : List UInt8) (a : Nat) (h : ReaderAt w B p v l a) (n : Nat) (ha : a ≤ l.length) (hn : l.length < a + n) (hl : l.length ≤ 100000000) (hn2 : n ≤ 100000) :
    Calls Try.prog 70 #[.pointer (some ⟨p, 0, none⟩), .int .i64 (n : Int)] w fun e w' => e = .returned (.int .u64 0) ∧ BadAt w' p v a 10 (l.length : Int) ∧ Upd (fun k => k = p) w w' := by
  have H := Lib.hid h
  clear h
  go_enter Try.func70, Try.ntmps70
  go_wp2_with fail
  refine wp_scope_loop 0 (fun a' w' => ∃ (u8 u9 u10 u11 u12 u13 u14 u15 u16 u17 u18 u19 u20 u21 u22 u23 u24 u25 : Value),
    a' = { tmps := #[.pointer (some ⟨p, 0, none⟩), .int .i64 (n : Int), undef, undef, .int .u64 0, .int .u64 0, .slice none 0 0, .int .i64 0, u8, u9, u10, u11, u12, u13, u14, u15, u16, u17, u18, u19, u20, u21, u22, u23, u24, u25], defers := [] } ∧
    BadAt w' p v a 10 (l.length : Int) ∧ Upd (fun k => k = p) w w') (fun _ _ => 0) rfl ?pass ?first
  case first =>
    intro hrest
    go_wp2_with fail
    refine (takeShort_any w B p v l a H.out n ha hn hl hn2).mono ?_
    rintro e w1 ⟨rfl, hw, hu⟩
    have H1 := Lib.hid hw
    have HU := Lib.hid hu
    clear hw hu
    go_wp2_with fail
    go_step3
    rename_i hK
    refine hK _ _ (hrest _ _ ?_)
    exact ⟨_, _, _, _, _, _, _, _, _, _, _, _, _, _, _, _, _, _, rfl, H1.out, HU.out⟩
  case pass =>
    rintro a' w' ⟨u8, u9, u10, u11, u12, u13, u14, u15, u16, u17, u18, u19, u20, u21, u22, u23, u24, u25, rfl, hw, hu⟩
    have H1 := Lib.hid hw
    have HU := Lib.hid hu
    clear hw hu
    go_wp2_with fail
    simp only [Exit.jump]
    go_ret
    exact ⟨rfl, H1.out, HU.out⟩

set_option maxHeartbeats 1000000 in
theorem fourShort_any (w : World) (B p : Nat) (v : Value) (l : List UInt8) (a : Nat) (h : ReaderAt w B p v l a) (ha : a ≤ l.length) (hn : l.length < a + 4) (hl : l.length ≤ 100000000) :
    Calls Try.prog 83 #[.pointer (some ⟨p, 0, none⟩)] w fun e w' => e = .returned (.int .i64 0) ∧ BadAt w' p v a 10 (l.length : Int) ∧ Upd (fun k => k = p) w w' := by
  go_enter Try.func83, Try.ntmps83
  go_wp2_with fail
  refine (getShort_any w B p v l a h 4 ha hn hl (by omega)).mono ?_
  rintro e w1 ⟨rfl, hw, hb⟩
  have H := Lib.hid hw
  have HB := Lib.hid hb
  clear hw hb h
  go_wp2_with fail
  go_ret
  exact ⟨rfl, H.out, HB.out⟩

set_option maxHeartbeats 1000000 in
/-- A count where there are no four bytes. -/
theorem countShort_any (w : World) (B p : Nat) (v : Value) (l : List UInt8) (a : Nat) (h : ReaderAt w B p v l a) (ha : a ≤ l.length) (hn : l.length < a + 4) (hl : l.length ≤ 100000000) (most : Nat) (hmo : most ≤ 100000) :
    Calls Try.prog 66 #[.pointer (some ⟨p, 0, none⟩), .int .i64 (most : Int)] w fun e w' => e = .returned (.int .i64 0) ∧ BadAt w' p v a 10 (l.length : Int) ∧ Upd (fun k => k = p) w w' := by
  have H := Lib.hid h
  have k1 := h.c1
  clear h
  go_enter Try.func66, Try.ntmps66
  go_wp2_with fail
  refine (fourShort_any w B p v l a H.out ha hn hl).mono ?_
  rintro e w1 ⟨rfl, hw, hb⟩
  have k2 := hw.c2
  have H1 := Lib.hid hw
  have HB := Lib.hid hb
  clear hw hb
  have hmx : max (most : Int) 0 = (most : Int) := by omega
  have hgt : ¬ ((most : Int) < 0) := by omega
  go_wp2_with fail
  go_ret
  exact ⟨rfl, H1.out, HB.out⟩

set_option maxHeartbeats 1000000 in
theorem endBad_any (w : World) (p : Nat) (v : Value) (a : Nat) (why en : Int) (h : BadAt w p v a why en) (hw : why ≠ 0) :
    Calls Try.prog 40 #[.pointer (some ⟨p, 0, none⟩)] w fun e w' => e = .returned (.tuple #[.int .i64 why, .int .i64 en]) ∧ Upd (fun k => k = p) w w' := by
  have k2 := h.c2
  have k3 := h.c3
  have hne : (why != 0) = true := by simpa using hw
  clear h
  go_enter Try.func40, Try.ntmps40
  go_wp2_with fail
  go_region
  all_goals
    go_wp2_with fail
    go_ret2
    exact ⟨rfl, (Upd.refl _ _).drew⟩

set_option maxRecDepth 100000 in
set_option maxHeartbeats 16000000 in
/-- Decode where the count itself is refused. -/
theorem decode_bad (A : Option Addr) (n c : Nat) (l : List UInt8) (w : World) (hl : l.length = n) (hn : n ≤ 100000000) (hr : RB w A l) (hnil : A = none → c = 0) (a' : Nat) (why en : Int) (hw0 : why ≠ 0)
    (hc : ∀ (w1 : World) (q : Nat) (vq : Value), ReaderAt w1 w.heap.size q vq l 0 → Calls Try.prog 66 #[.pointer (some ⟨q, 0, none⟩), .int .i64 ((4096 : Nat) : Int)] w1 fun e w' => e = .returned (.int .i64 0) ∧ BadAt w' q vq a' why en ∧ Upd (fun k => k = q) w1 w') :
    Calls Try.prog 36 #[.slice A n c] w fun e w' => e = .returned (.tuple #[.slice none 0 0, .int .i64 why, .int .i64 en]) ∧ Below w.heap.size w w' := by
  subst hl
  have HR := Lib.hid hr
  have HNIL := Lib.hid hnil
  have HC := Lib.hid hc
  have hne : (why != 0) = true := by simpa using hw0
  clear hr hnil hc
  go_enter Try.func36, Try.ntmps36
  go_wp2_with fail
  refine wp_scope_loop 0 (fun a2 w' => ∃ (q : Nat) (vq : Value) (t : List Value),
    a2 = { tmps := (.slice A l.length c :: undef :: .slice none 0 0 :: .int .i64 0 :: .int .i64 0 :: .pointer (some ⟨q, 0, none⟩) :: .slice none 0 0 :: .slice none 0 0 :: .int .i64 0 :: t).toArray, defers := [] } ∧ t.length = 67 ∧
    BadAt w' q vq a' why en ∧ w.heap.size ≤ q ∧ Below w.heap.size w w')
    (fun _ _ => 0) rfl ?pass ?first
  case first =>
    intro hrest
    go_wp2_with fail
    refine (newReader_any A l.length c l _ rfl hn HR.out HNIL.out).mono ?_
    rintro e w1 ⟨q, vq, rfl, hw, hb⟩
    have R1 := Lib.hid hw
    have B1 := Lib.hid hb
    clear hw hb
    go_wp2_with fail
    refine (HC.out w1 q vq R1.out).mono ?_
    rintro e w2 ⟨rfl, hw, hu⟩
    have R2 := Lib.hid hw
    have B2 := Lib.hid (below_upd B1.out B1.out.size hu (fun k hk => by rw [hk]; exact R1.out.base))
    have HBQ := Lib.hid R1.out.base
    clear hw hu
    go_wp2_with fail
    go_step3
    rename_i hK
    refine hK _ _ (hrest _ _ ?_)
    exact ⟨q, vq, _, rfl, rfl, R2.out, HBQ.out, B2.out⟩
  case pass =>
    rintro a2 w' ⟨q, vq, tl, rfl, htl0, hbd, hbq, hb⟩
    obtain ⟨u, rfl⟩ := tail67 tl htl0
    have HBD := Lib.hid hbd
    have HBQ := Lib.hid hbq
    have HB := Lib.hid hb
    clear htl0 hbd hbq hb
    go_wp2_with fail
    refine (endBad_any w' q vq a' why en HBD.out hw0).mono ?_
    rintro e w2 ⟨rfl, hu⟩
    have HB2 := Lib.hid (below_upd HB.out HB.out.size hu (fun k hk => by rw [hk]; exact HBQ.out))
    clear hu
    go_wp2_with fail
    simp only [Exit.jump]
    go_ret3
    exact ⟨rfl, HB2.out⟩

end Go.Proofs.Ytjakhemolecbnaa
end

/-
  The walks of wire's reader in any state: what is there, what is short, and behind a refusal.
-/
section
set_option linter.unusedVariables false
set_option linter.unusedSimpArgs false
namespace Go.Proofs.Ytjakhemolecbnaa
open Go.RowKit

/-- A reader's state: the place; the refusal (0: none) and its place. -/
structure Rs where
  a : Nat
  why : Int
  en : Int
def rawS (l : List UInt8) (n : Nat) (s : Rs) : List UInt8 × Rs :=
  if s.why ≠ 0 then ([], s) else if l.length < s.a + n then ([], ⟨s.a, 10, l.length⟩) else ((l.drop s.a).take n, ⟨s.a + n, s.why, s.en⟩)
def fourS (l : List UInt8) (s : Rs) : Nat × Rs := (numOf (rawS l 4 s).1, (rawS l 4 s).2)
def byteS (l : List UInt8) (s : Rs) : UInt8 × Rs := ((rawS l 1 s).1.headD 0, (rawS l 1 s).2)
def countS (l : List UInt8) (most : Nat) (s : Rs) : Nat × Rs := if most < (fourS l s).1 then (0, ⟨(fourS l s).2.a, 3, s.a⟩) else fourS l s
def textS (l : List UInt8) (most : Nat) (s : Rs) : List UInt8 × Rs := rawS l (countS l most s).1 (countS l most s).2
def leftS (l : List UInt8) (s : Rs) : Nat := if s.why ≠ 0 then 0 else l.length - s.a
def endS (l : List UInt8) (s : Rs) : Int × Int := if s.why ≠ 0 then (s.why, s.en) else if s.a < l.length then (11, s.a) else (0, 0)
theorem rawS_length (l : List UInt8) (n : Nat) (s : Rs) : (rawS l n s).1.length ≤ n := by
  unfold rawS
  split
  · simp
  · split
    · simp
    · simp; omega
theorem fourS_lt (l : List UInt8) (s : Rs) : (fourS l s).1 < 4294967296 := by
  have h1 := numOf_lt (rawS l 4 s).1
  have h2 : 256 ^ (rawS l 4 s).1.length ≤ 256 ^ 4 := Nat.pow_le_pow_right (by omega) (rawS_length l 4 s)
  have h3 : 256 ^ 4 = 4294967296 := by decide
  show numOf _ < _
  omega
theorem rawS_bad {l : List UInt8} {n : Nat} {s : Rs} (h : s.why ≠ 0) : rawS l n s = ([], s) := by unfold rawS; rw [if_pos h]
theorem fourS_bad {l : List UInt8} {s : Rs} (h : s.why ≠ 0) : fourS l s = (0, s) := by unfold fourS; rw [rawS_bad h]; rfl
theorem countS_bad {l : List UInt8} {most : Nat} {s : Rs} (h : s.why ≠ 0) : countS l most s = (0, s) := by unfold countS; rw [fourS_bad h]; simp
theorem countS_le (l : List UInt8) (most : Nat) (s : Rs) : (countS l most s).1 ≤ most := by
  unfold countS
  split
  · simp
  · omega

structure RdAt (w : World) (B p : Nat) (v : Value) (l : List UInt8) (s : Rs) : Prop where
  at_ : w.heap[p]? = some (.cells #[v, .int .i64 (s.a : Int), .int .i64 s.why, .int .i64 s.en] 127 (0, 0))
  own : w.ownsRow B 5 1 v l.length (bv l)
  ne : v.ownBlock ≠ some p
  base : B ≤ p
  le : s.a ≤ l.length
  z : s.why = 0 → s.en = 0
namespace RdAt
variable {w w' : World} {B p : Nat} {v : Value} {l : List UInt8} {s : Rs}
theorem lt (h : RdAt w B p v l s) : p < w.heap.size := (Array.getElem?_eq_some_iff.1 h.at_).1
theorem c0 (h : RdAt w B p v l s) : w.cell? ⟨p, 0, none⟩ = some v := by rw [cell_of_row w p 0 _ _ _ h.at_]; rfl
theorem c1 (h : RdAt w B p v l s) : w.cell? ⟨p, 1, none⟩ = some (.int .i64 (s.a : Int)) := by rw [cell_of_row w p 1 _ _ _ h.at_]; rfl
theorem c2 (h : RdAt w B p v l s) : w.cell? ⟨p, 2, none⟩ = some (.int .i64 s.why) := by rw [cell_of_row w p 2 _ _ _ h.at_]; rfl
theorem c3 (h : RdAt w B p v l s) : w.cell? ⟨p, 3, none⟩ = some (.int .i64 s.en) := by rw [cell_of_row w p 3 _ _ _ h.at_]; rfl
theorem f0 (h : RdAt w B p v l s) (j : Nat) : w.frozen? ⟨p, j, none⟩ = false := frozen_of_row w p j _ _ h.at_
theorem upd {F : Nat → Prop} (h : RdAt w B p v l s) (u : Upd F w w') (hp : ¬ F p) (hv : ∀ k, v.ownBlock = some k → ¬ F k) : RdAt w' B p v l s :=
  ⟨(u.block p h.lt hp).trans h.at_, own_upd h.own u hv, h.ne, h.base, h.le, h.z⟩
theorem below (h : RdAt w B p v l s) (hb : Below w.heap.size w w') : RdAt w' B p v l s := h.upd (Upd.of_below (F := fun _ => False) hb) id (fun _ _ => id)
theorem drew (h : RdAt w B p v l s) : RdAt w.drew B p v l s := ⟨h.at_, h.own, h.ne, h.base, h.le, h.z⟩
theorem good (h : RdAt w B p v l s) (h0 : s.why = 0) : ReaderAt w B p v l s.a := by
  have h1 := h.at_
  rw [h0, h.z h0] at h1
  exact ⟨h1, h.own, h.ne, h.base⟩
theorem of_good {a : Nat} (h : ReaderAt w B p v l a) (ha : a ≤ l.length) : RdAt w B p v l ⟨a, 0, 0⟩ := ⟨h.at_, h.own, h.ne, h.base, ha, fun _ => rfl⟩
theorem of_bad {a : Nat} {why en : Int} (h : RdAt w B p v l s) (u : Upd (fun k => k = p) w w') (hb : BadAt w' p v a why en) (hw : why ≠ 0) (ha : a ≤ l.length) : RdAt w' B p v l ⟨a, why, en⟩ :=
  ⟨hb, own_upd h.own u (fun k hk e => h.ne (e ▸ hk)), h.ne, h.base, ha, fun e => absurd e hw⟩
theorem goes {w0 : World} (h : RdAt w B p v l s) (hb : Below B w0 w) (hB : B ≤ w.heap.size) (u : Upd (fun k => k = p) w w') : Below B w0 w' := below_upd hb hB u (fun k hk => by rw [hk]; exact h.base)
end RdAt

set_option maxHeartbeats 1000000 in
theorem takeRefused_any (w : World) (B p : Nat) (v : Value) (l : List UInt8) (s : Rs) (h : RdAt w B p v l s) (n : Int) (h0 : s.why ≠ 0) :
    Calls Try.prog 71 #[.pointer (some ⟨p, 0, none⟩), .int .i64 n] w fun e w' => e = .returned (.slice none 0 0) ∧ w = w' := by
  have k2 := h.c2
  have hne : (s.why != 0) = true := by simpa using h0
  clear h
  go_enter Try.func71, Try.ntmps71
  go_wp2_with fail
  go_ret
  exact ⟨rfl, rfl⟩

set_option maxHeartbeats 4000000 in
theorem takeZero_any (w : World) (B p : Nat) (v : Value) (l : List UInt8) (h : ReaderAt w B p v l l.length) (hl : l.length ≤ 100000000) :
    Calls Try.prog 71 #[.pointer (some ⟨p, 0, none⟩), .int .i64 0] w fun e w' => ∃ A c, e = .returned (.slice A 0 c) ∧ ReaderAt w' B p v l l.length ∧ Upd (fun k => k = p) w w' := by
  have k0 := h.c0
  have k1 := h.c1
  have k2 := h.c2
  have f1 := h.f0 1
  have hlt := h.lt
  have H := Lib.hid h
  have hfin : ∀ w' : World, w' = (w.setCell ⟨p, 1, none⟩ (.int .i64 (l.length : Int))).drew.drew → ReaderAt w' B p v l l.length ∧ Upd (fun k => k = p) w w' := by
    rintro w' rfl
    have hb1 : Upd (fun k => k = p) w (w.setCell ⟨p, 1, none⟩ (.int .i64 (l.length : Int))) := (Upd.refl (fun k => k = p) w).setCell (fun _ => rfl) _
    exact ⟨⟨(setCell_at h.at_ _).trans rfl, own_setCell h.own h.ne _, h.ne, h.base⟩, hb1.drew.drew⟩
  have HFIN := Lib.hid hfin
  have hw1 : IntKind.i64.wrap ((l.length : Int) - (l.length : Int)) = 0 := by rw [IntKind.wrap_i64]; omega
  have hw3 : IntKind.i64.wrap (l.length : Int) = (l.length : Int) := by rw [IntKind.wrap_i64]; omega
  rcases h.own.2 with ⟨rfl, hn0⟩ | ⟨g, cap, cur, rfl, hb, hg, hnc, _⟩
  · obtain rfl := List.eq_nil_of_length_eq_zero hn0
    simp only [List.length_nil] at k1 hw1 hw3 HFIN
    clear h hfin hn0 hw3 hw1
    go_enter Try.func71, Try.ntmps71
    go_wp2_with fail
    go_region
    go_wp2_with fail
    go_region
    go_wp2_with fail
    go_ret
    exact ⟨_, _, rfl, HFIN.out _ rfl⟩
  · clear h hfin
    have hl0 : (0 : Int) ≤ (l.length : Int) := by omega
    by_cases hc : cap = l.length
    · subst hc
      go_enter Try.func71, Try.ntmps71
      go_wp2_with fail
      go_region
      go_wp2_with fail
      go_region
      go_wp2_with fail
      go_ret
      exact ⟨_, _, rfl, HFIN.out _ rfl⟩
    · have hcl : (l.length : Int) ≤ (cap : Int) := by omega
      go_enter Try.func71, Try.ntmps71
      go_wp2_with fail
      go_region
      go_wp2_with fail
      go_region
      go_wp2_with fail
      go_ret
      exact ⟨_, _, rfl, HFIN.out _ rfl⟩

theorem take_g (w : World) (B p : Nat) (v : Value) (l : List UInt8) (s : Rs) (h : RdAt w B p v l s) (n : Nat) (hn : n ≤ 100000) (hl : l.length ≤ 100000000) :
    Calls Try.prog 71 #[.pointer (some ⟨p, 0, none⟩), .int .i64 (n : Int)] w fun e w' => ∃ A c, e = .returned (.slice A (rawS l n s).1.length c) ∧ RB w' A (rawS l n s).1 ∧ RdAt w' B p v l (rawS l n s).2 ∧ Upd (fun k => k = p) w w' := by
  unfold rawS
  by_cases h0 : s.why = 0
  · rw [if_neg (by simpa using h0)]
    by_cases h1 : l.length < s.a + n
    · rw [if_pos h1]
      refine (takeShort_any w B p v l s.a (h.good h0) n h.le h1 hl hn).mono ?_
      rintro e w' ⟨rfl, hb, hu⟩
      exact ⟨none, 0, rfl, RB.nil _ _, h.of_bad hu hb (by omega) h.le, hu⟩
    · rw [if_neg h1]
      have e1 : ((l.drop s.a).take n).length = n := by rw [List.length_take, List.length_drop]; omega
      by_cases h2 : s.a < l.length
      · refine (take3_any w B p v l s.a (h.good h0) n h2 (by omega) hl).mono ?_
        rintro e w' ⟨A, c, rfl, hr, ht, hu⟩
        have := RdAt.of_good ht (by omega)
        rw [h0, h.z h0]
        exact ⟨A, c, by rw [e1], hr, this, hu⟩
      · have ha : s.a = l.length := by have := h.le; omega
        obtain rfl : n = 0 := by omega
        have hg := h.good h0
        rw [ha] at hg
        refine (takeZero_any w B p v l hg hl).mono ?_
        rintro e w' ⟨A, c, rfl, ht, hu⟩
        have := RdAt.of_good ht (Nat.le_refl _)
        rw [h0, h.z h0, ha]
        exact ⟨A, c, by simp, by simp; exact RB.nil _ _, this, hu⟩
  · rw [if_pos h0]
    refine (takeRefused_any w B p v l s h (n : Int) h0).mono ?_
    rintro e w' ⟨rfl, rfl⟩
    exact ⟨none, 0, rfl, RB.nil _ _, h, Upd.refl _ _⟩

set_option maxHeartbeats 4000000 in
theorem get_g (w : World) (B p : Nat) (v : Value) (l : List UInt8) (s : Rs) (h : RdAt w B p v l s) (n : Nat) (hn8 : n ≤ 7) (hl : l.length ≤ 100000000) :
    Calls Try.prog 70 #[.pointer (some ⟨p, 0, none⟩), .int .i64 (n : Int)] w fun e w' => e = .returned (.int .u64 (numOf (rawS l n s).1 : Nat)) ∧ RdAt w' B p v l (rawS l n s).2 ∧ Upd (fun k => k = p) w w' := by
  go_enter Try.func70, Try.ntmps70
  have hx := rawS_length l n s
  obtain ⟨x, ex⟩ : ∃ x, x = (rawS l n s).1 := ⟨_, rfl⟩
  obtain ⟨m, em⟩ : ∃ m, m = x.length := ⟨_, rfl⟩
  rw [← ex] at hx ⊢
  rw [← em] at hx
  obtain ⟨s2, es⟩ : ∃ s2, s2 = (rawS l n s).2 := ⟨_, rfl⟩
  rw [← es]
  have EM := Lib.hid em
  have HM7 : m ≤ 7 := by omega
  go_wp2_with fail
  refine wp_scope_loop 0 (fun a' w' => ∃ (i c y : Nat) (A : Option Addr) (u8 u9 u10 u11 u12 u13 u14 u15 u16 u17 u18 u19 u20 u21 u22 u23 u24 u25 : Value),
    a' = { tmps := #[.pointer (some ⟨p, 0, none⟩), .int .i64 (n : Int), undef, undef, .int .u64 0, .int .u64 (y : Int), .slice A m c, .int .i64 (i : Int), u8, u9, u10, u11, u12, u13, u14, u15, u16, u17, u18, u19, u20, u21, u22, u23, u24, u25], defers := [] } ∧
    y = numOf (x.take i) ∧ i ≤ m ∧ RB w' A x ∧ RdAt w' B p v l s2 ∧ Upd (fun k => k = p) w w') (fun a' _ => ((m : Int) - intOf (a'.tmps.getD 7 undef)).toNat) rfl ?pass ?first
  case first =>
    intro hrest
    go_wp2_with fail
    refine (take_g w B p v l s h n (by omega) hl).mono ?_
    rw [← ex, ← es, ← em]
    rintro e w1 ⟨A, c, rfl, hr, hw, hb⟩
    have H := Lib.hid hw
    have HR := Lib.hid hr
    have HB := Lib.hid hb
    clear h hw hr hb ex es em
    go_wp2_with fail
    go_step3
    rename_i hK
    refine hK _ _ (hrest _ _ ?_)
    exact ⟨0, _, 0, _, _, _, _, _, _, _, _, _, _, _, _, _, _, _, _, _, _, _, rfl, by simp [numOf], by omega, HR.out, H.out, HB.out⟩
  case pass =>
    rintro a' w' ⟨i, c, y, A, u8, u9, u10, u11, u12, u13, u14, u15, u16, u17, u18, u19, u20, u21, u22, u23, u24, u25, rfl, hy, hi, hr, hw, hb⟩
    have H := Lib.hid hw
    have HR := Lib.hid hr
    have HB := Lib.hid hb
    clear h hw hr hb ex es em
    by_cases hlt : i < m
    · have hix : i < x.length := by rw [← EM.out]; exact hlt
      obtain ⟨b, o, rfl, hc⟩ := HR.out.parts (by omega)
      have k1 := hc i hix
      have hs : numOf (x.take (i + 1)) = numOf (x.take i) * 256 + x[i].toNat := by
        rw [List.take_succ_eq_append_getElem (by omega), numOf_snoc]
      have hb1 : numOf (x.take i) < 72057594037927936 := by
        have h1 := numOf_lt (x.take i)
        have h2 : 256 ^ (x.take i).length ≤ 256 ^ 7 := Nat.pow_le_pow_right (by omega) (by rw [List.length_take]; omega)
        have h3 : 256 ^ 7 = 72057594037927936 := by decide
        omega
      rw [← hy] at hs hb1
      have ho := or64_low y x[i] hb1
      rw [← hs, Int.natCast_mul] at ho
      have HS := Lib.hid hs
      obtain ⟨y1, ey1⟩ : ∃ y1, y1 = numOf (x.take (i + 1)) := ⟨_, rfl⟩
      rw [← ey1] at ho
      have EY := Lib.hid ey1
      have hwb := un8_range x[i]
      have how : IntKind.u64.wrap (un8 x[i]) = un8 x[i] := by rw [IntKind.wrap_u64]; omega
      generalize x[i] = bb at *
      have hw1 : IntKind.u64.wrap ((y : Int) * 256) = (y : Int) * 256 := by rw [IntKind.wrap_u64]; omega
      clear hc hs hy hb1 ey1 hwb hix
      have ho' : bits .or .u64 ((y : Int) * 256) (un8 bb) = (y1 : Int) := ho
      clear ho
      go_wp2_with fail
      go_step3
      refine ⟨rfl, ⟨i + 1, _, y1, _, _, _, _, _, _, _, _, _, _, _, _, _, _, _, _, _, _, _, rfl, EY.out, by omega, HR.out, H.out, HB.out⟩, by simp [intOf]; omega⟩
    · obtain rfl : i = m := by omega
      rw [show x.take i = x from List.take_of_length_le (by rw [← EM.out]; exact Nat.le_refl _)] at hy
      have HYY := Lib.hid hy
      clear hy
      go_wp2_with fail
      simp only [Exit.jump]
      go_ret
      exact ⟨by rw [← HYY.out]; rfl, H.out, HB.out⟩

set_option maxHeartbeats 1000000 in
theorem four_g (w : World) (B p : Nat) (v : Value) (l : List UInt8) (s : Rs) (h : RdAt w B p v l s) (hl : l.length ≤ 100000000) :
    Calls Try.prog 83 #[.pointer (some ⟨p, 0, none⟩)] w fun e w' => e = .returned (.int .i64 ((fourS l s).1 : Nat)) ∧ RdAt w' B p v l (fourS l s).2 ∧ Upd (fun k => k = p) w w' := by
  have hlt := fourS_lt l s
  obtain ⟨y, ey⟩ : ∃ y, y = (fourS l s).1 := ⟨_, rfl⟩
  rw [← ey] at hlt ⊢
  go_enter Try.func83, Try.ntmps83
  go_wp2_with fail
  refine (get_g w B p v l s h 4 (by omega) hl).mono ?_
  rw [show numOf (rawS l 4 s).1 = y from ey.symm]
  rintro e w1 ⟨rfl, hw, hb⟩
  have H := Lib.hid hw
  have HB := Lib.hid hb
  clear hw hb h ey
  have hw : IntKind.i64.wrap (y : Int) = (y : Int) := by rw [IntKind.wrap_i64]; omega
  clear hlt
  go_wp2_with fail
  go_ret
  exact ⟨rfl, H.out, HB.out⟩

theorem num_one : ∀ x : List UInt8, x.length ≤ 1 → ((numOf x : Nat) : Int) = un8 (x.headD 0)
  | [], _ => rfl
  | [y], _ => by simp [numOf, un8]
  | _ :: _ :: _, h => by simp at h
set_option maxHeartbeats 1000000 in
theorem byte_g (w : World) (B p : Nat) (v : Value) (l : List UInt8) (s : Rs) (h : RdAt w B p v l s) (hl : l.length ≤ 100000000) :
    Calls Try.prog 38 #[.pointer (some ⟨p, 0, none⟩)] w fun e w' => e = .returned (.int .i64 (un8 (byteS l s).1)) ∧ RdAt w' B p v l (byteS l s).2 ∧ Upd (fun k => k = p) w w' := by
  have hx := un8_range (byteS l s).1
  have E2 := Lib.hid (num_one (rawS l 1 s).1 (rawS_length l 1 s))
  obtain ⟨x, ex⟩ : ∃ x, x = (byteS l s).1 := ⟨_, rfl⟩
  rw [← ex] at hx ⊢
  go_enter Try.func38, Try.ntmps38
  go_wp2_with fail
  refine (get_g w B p v l s h 1 (by omega) hl).mono ?_
  rw [E2.out, show (rawS l 1 s).1.headD 0 = x from ex.symm]
  rintro e w1 ⟨rfl, hw, hb⟩
  have H := Lib.hid hw
  have HB := Lib.hid hb
  clear hw hb h ex
  have hw : IntKind.i64.wrap (un8 x) = un8 x := by rw [IntKind.wrap_i64]; omega
  clear hx
  go_wp2_with fail
  go_ret
  exact ⟨rfl, H.out, HB.out⟩

set_option maxHeartbeats 1000000 in
theorem count_g (w : World) (B p : Nat) (v : Value) (l : List UInt8) (s : Rs) (h : RdAt w B p v l s) (hl : l.length ≤ 100000000) (most : Nat) (hmo : most ≤ 100000) :
    Calls Try.prog 66 #[.pointer (some ⟨p, 0, none⟩), .int .i64 (most : Int)] w fun e w' => e = .returned (.int .i64 ((countS l most s).1 : Nat)) ∧ RdAt w' B p v l (countS l most s).2 ∧ Upd (fun k => k = p) w w' := by
  have H := Lib.hid h
  have k1 := h.c1
  have hbad : s.why ≠ 0 → (fourS l s).1 = 0 := fun hw => by rw [fourS_bad hw]
  have hkeep : (fourS l s).1 ≠ 0 → (fourS l s).2.why = 0 := fun hm => by
    by_cases hw : s.why = 0
    · unfold fourS rawS at hm ⊢
      rw [if_neg (by simpa using hw)] at hm ⊢
      split
      · rename_i h3
        rw [if_pos h3] at hm
        simp [numOf] at hm
      · exact hw
    · exact absurd (hbad hw) hm
  have hz : (fourS l s).2.why ≠ 0 → (fourS l s).1 = 0 := fun hw => Classical.byContradiction fun hm => hw (hkeep hm)
  unfold countS
  obtain ⟨m, em⟩ : ∃ m, m = (fourS l s).1 := ⟨_, rfl⟩
  obtain ⟨s2, es⟩ : ∃ s2, s2 = (fourS l s).2 := ⟨_, rfl⟩
  have E : fourS l s = (m, s2) := by rw [em, es]
  rw [E] at hkeep hz ⊢
  have HZ := Lib.hid hz
  have HKP := Lib.hid hkeep
  have EM := Lib.hid em
  have ES := Lib.hid es
  dsimp only
  clear h hbad hkeep hz em es E
  have hmx : max (most : Int) 0 = (most : Int) := by omega
  by_cases hgt : most < m
  · rw [if_pos hgt]
    go_enter Try.func66, Try.ntmps66
    go_wp2_with fail
    refine (four_g w B p v l s H.out hl).mono ?_
    rw [← EM.out, ← ES.out]
    rintro e w1 ⟨rfl, hw, hb⟩
    have H1 := Lib.hid hw
    have HB := Lib.hid hb
    clear hw hb
    have hgt' : (most : Int) < (m : Int) := by omega
    go_wp2_with fail
    have h0 := HKP.out (by omega)
    refine (refuse_any w1 B p v l s2.a (H1.out.good h0) 3 (s.a : Int)).mono ?_
    rintro e w2 ⟨rfl, hw, hu⟩
    have k2 := hw.c2
    have H2 := Lib.hid (H1.out.of_bad hu hw (by omega) H1.out.le)
    have HB2 := Lib.hid (HB.out.trans hu (fun _ _ h => h))
    clear hw hu h0
    go_wp2_with fail
    go_ret
    exact ⟨rfl, H2.out, HB2.out⟩
  · rw [if_neg hgt]
    by_cases h0 : s2.why = 0
    · go_enter Try.func66, Try.ntmps66
      go_wp2_with fail
      refine (four_g w B p v l s H.out hl).mono ?_
      rw [← EM.out, ← ES.out]
      rintro e w1 ⟨rfl, hw, hb⟩
      have k2 := hw.c2
      have H1 := Lib.hid hw
      have HB := Lib.hid hb
      clear hw hb
      have hgt' : ¬ ((most : Int) < (m : Int)) := by omega
      go_wp2_with fail
      go_ret
      exact ⟨rfl, H1.out, HB.out⟩
    · have hne : (s2.why != 0) = true := by simpa using h0
      go_enter Try.func66, Try.ntmps66
      go_wp2_with fail
      refine (four_g w B p v l s H.out hl).mono ?_
      rw [← EM.out, ← ES.out]
      rintro e w1 ⟨rfl, hw, hb⟩
      have k2 := hw.c2
      have H1 := Lib.hid hw
      have HB := Lib.hid hb
      clear hw hb
      have hgt' : ¬ ((most : Int) < (m : Int)) := by omega
      go_wp2_with fail
      go_ret
      exact ⟨by rw [show m = 0 from HZ.out h0]; rfl, H1.out, HB.out⟩

set_option maxHeartbeats 1000000 in
theorem text_g (w : World) (B p : Nat) (v : Value) (l : List UInt8) (s : Rs) (h : RdAt w B p v l s) (hl : l.length ≤ 100000000) (most : Nat) (hmo : most ≤ 100000) :
    Calls Try.prog 39 #[.pointer (some ⟨p, 0, none⟩), .int .i64 (most : Int)] w fun e w' => e = .returned (.string (strB (textS l most s).1)) ∧ RdAt w' B p v l (textS l most s).2 ∧ Upd (fun k => k = p) w w' := by
  have H := Lib.hid h
  clear h
  have hcl := countS_le l most s
  unfold textS
  obtain ⟨m, em⟩ : ∃ m, m = (countS l most s).1 := ⟨_, rfl⟩
  obtain ⟨s2, es⟩ : ∃ s2, s2 = (countS l most s).2 := ⟨_, rfl⟩
  rw [← em] at hcl
  rw [← em, ← es]
  have EM := Lib.hid em
  have ES := Lib.hid es
  have HCL := Lib.hid hcl
  obtain ⟨x, ex⟩ : ∃ x, x = (rawS l m s2).1 := ⟨_, rfl⟩
  rw [← ex]
  have EX := Lib.hid ex
  clear em es hcl ex
  go_enter Try.func39, Try.ntmps39
  go_wp2_with fail
  refine (count_g w B p v l s H.out hl most hmo).mono ?_
  rw [← EM.out, ← ES.out]
  rintro e w1 ⟨rfl, hw, hb⟩
  have H1 := Lib.hid hw
  have HB1 := Lib.hid hb
  clear hw hb
  go_wp2_with fail
  refine (take_g w1 B p v l s2 H1.out m (by have := HCL.out; omega) hl).mono ?_
  rw [← EX.out]
  rintro e w2 ⟨A, c, rfl, hr, hw, hb⟩
  have hst := run_string_RB (P := Try.prog) w2 25 9 5 Try.underlying25 Try.underlying5 Try.underlying9 A x.length c x rfl hr
  have H2 := Lib.hid hw
  have HB2 := Lib.hid (HB1.out.trans hb (fun _ _ h => h))
  clear hw hb hr
  go_wp2_with fail
  go_ret
  exact ⟨rfl, H2.out, HB2.out⟩

set_option maxHeartbeats 1000000 in
theorem left_g (w : World) (B p : Nat) (v : Value) (l : List UInt8) (s : Rs) (h : RdAt w B p v l s) (hl : l.length ≤ 100000000) :
    Calls Try.prog 67 #[.pointer (some ⟨p, 0, none⟩)] w fun e w' => e = .returned (.int .i64 ((leftS l s : Nat) : Int)) ∧ RdAt w' B p v l s ∧ Upd (fun k => k = p) w w' := by
  unfold leftS
  by_cases h0 : s.why = 0
  · rw [if_neg (by simpa using h0)]
    refine (readerLeft2_any w B p v l s.a (h.good h0) h.le hl).mono ?_
    rintro e w' ⟨rfl, hr, hu⟩
    refine ⟨rfl, ?_, hu⟩
    have := RdAt.of_good hr h.le
    have e2 : s = ⟨s.a, 0, 0⟩ := by
      have h2 := h.z h0
      cases s
      simp only at h0 h2
      subst h0 h2
      rfl
    rw [e2]
    exact this
  · rw [if_pos h0]
    have k2 := h.c2
    have H := Lib.hid h
    have hne : (s.why != 0) = true := by simpa using h0
    clear h
    go_enter Try.func67, Try.ntmps67
    go_wp2_with fail
    go_ret
    exact ⟨rfl, H.out, Upd.refl _ _⟩

set_option maxHeartbeats 1000000 in
theorem end_g (w : World) (B p : Nat) (v : Value) (l : List UInt8) (s : Rs) (h : RdAt w B p v l s) (hl : l.length ≤ 100000000) :
    Calls Try.prog 40 #[.pointer (some ⟨p, 0, none⟩)] w fun e w' => e = .returned (.tuple #[.int .i64 (endS l s).1, .int .i64 (endS l s).2]) ∧ Upd (fun k => k = p) w w' := by
  unfold endS
  by_cases h0 : s.why = 0
  · rw [if_neg (by simpa using h0)]
    by_cases h1 : s.a < l.length
    · rw [if_pos h1]
      obtain ⟨A, c, rfl, _⟩ := own_slice h.own
      have g := h.good h0
      have k0 := g.c0
      have k1 := g.c1
      have k2 := g.c2
      have H := Lib.hid h
      clear h g
      have hlt : ((s.a : Int) < (l.length : Int)) := by omega
      go_enter Try.func40, Try.ntmps40
      go_wp2_with fail
      go_region
      all_goals
        go_wp2_with fail
        go_region
        all_goals
          go_wp2_with fail
          go_ret2
          exact ⟨rfl, (Upd.refl _ _).drew.drew⟩
    · rw [if_neg h1]
      refine (readerEnd2_any w B p v l s.a (h.good h0) (by have := h.le; omega) hl).mono ?_
      rintro e w' ⟨rfl, hr, hu⟩
      exact ⟨rfl, hu⟩
  · rw [if_pos h0]
    exact endBad_any w p v s.a s.why s.en h.at_ h0
end Go.Proofs.Ytjakhemolecbnaa
end

/-
  The walk of Decode, of the chain, on any bytes.
-/
section
set_option linter.unusedVariables false
set_option linter.unusedSimpArgs false
namespace Go.Proofs.Ytjakhemolecbnaa
open Go.RowKit

abbrev Lks := List (List UInt8 × List UInt8)
def pad32 (x : List UInt8) : List UInt8 := if x.length = 32 then x else List.replicate 32 0
def linkS (l : List UInt8) (s : Rs) : (List UInt8 × List UInt8) × Rs :=
  (((textS l 4000 s).1, pad32 (rawS l 32 (textS l 4000 s).2).1), (rawS l 32 (textS l 4000 s).2).2)
/-- What is behind all links: refused, or the links. -/
def concS (l : List UInt8) (s : Rs) (M : Lks) (P : List Nat) : (Int × Int) ⊕ Lks :=
  if (endS l s).1 ≠ 0 then .inl (endS l s) else if checkOf M < M.length then .inl (12, ((P.getD (checkOf M) 0 : Nat) : Int)) else .inr M
def runS (l : List UInt8) : Nat → Rs → Lks → List Nat → (Int × Int) ⊕ Lks
  | 0, s, M, P => concS l s M P
  | k + 1, s, M, P => if s.why ≠ 0 then .inl (s.why, s.en) else runS l k (linkS l s).2 (M ++ [(linkS l s).1]) (P ++ [s.a])
def decS (l : List UInt8) : (Int × Int) ⊕ Lks := runS l (countS l 4096 ⟨0, 0, 0⟩).1 (countS l 4096 ⟨0, 0, 0⟩).2 [] []
theorem runS_bad (l : List UInt8) (k : Nat) (s : Rs) (M : Lks) (P : List Nat) (h : s.why ≠ 0) : runS l k s M P = .inl (s.why, s.en) := by
  cases k with
  | zero =>
    have e : endS l s = (s.why, s.en) := by unfold endS; rw [if_pos h]
    unfold runS concS
    rw [e, if_pos h]
  | succ k => unfold runS; rw [if_pos h]
theorem runS_short (l : List UInt8) (k : Nat) (s : Rs) (M : Lks) (P : List Nat) (h : s.why = 0) (ha : l.length ≤ s.a) : runS l (k + 1) s M P = .inl (10, (l.length : Int)) := by
  have e1 : rawS l 4 s = ([], ⟨s.a, 10, l.length⟩) := by unfold rawS; rw [if_neg (by simpa using h), if_pos (by omega)]
  have e2 : fourS l s = (0, ⟨s.a, 10, l.length⟩) := by unfold fourS; rw [e1]; rfl
  have e3 : countS l 4000 s = (0, ⟨s.a, 10, l.length⟩) := by unfold countS; rw [e2]; rfl
  have e4 : textS l 4000 s = ([], ⟨s.a, 10, l.length⟩) := by unfold textS; rw [e3]; exact rawS_bad (by simp)
  have e5 : (linkS l s).2 = ⟨s.a, 10, l.length⟩ := by unfold linkS; rw [e4, rawS_bad (by simp)]
  unfold runS
  rw [if_neg (by simpa using h), e5, runS_bad _ _ _ _ _ (by simp)]
theorem exit_short (l : List UInt8) (m : Nat) (s : Rs) (M : Lks) (P : List Nat) (ha : s.a ≤ l.length) (h0 : leftS l s = 0) : runS l (m + 1) s M P = .inl (endS l (byteS l s).2) ∧ (endS l (byteS l s).2).1 ≠ 0 := by
  unfold leftS at h0
  by_cases h : s.why = 0
  · rw [if_neg (by simpa using h)] at h0
    rw [runS_short l m s M P h (by omega)]
    have e1 : (byteS l s).2 = ⟨s.a, 10, l.length⟩ := by unfold byteS rawS; rw [if_neg (by simpa using h), if_pos (by omega)]
    rw [e1]
    have e2 : endS l ⟨s.a, 10, l.length⟩ = (10, (l.length : Int)) := by unfold endS; rw [if_pos (by simp)]
    rw [e2]
    exact ⟨rfl, by simp⟩
  · have e1 : (byteS l s).2 = s := by unfold byteS; rw [rawS_bad h]
    have e2 : endS l s = (s.why, s.en) := by unfold endS; rw [if_pos h]
    rw [e1, e2, runS_bad l (m + 1) s M P h]
    exact ⟨rfl, h⟩

/-- So many bytes, one behind the other. -/
def hS (l : List UInt8) (s : Rs) : Nat → List UInt8 × Rs
  | 0 => ([], s)
  | j + 1 => ((hS l s j).1 ++ [(byteS l (hS l s j).2).1], (byteS l (hS l s j).2).2)
theorem hS_length (l : List UInt8) (s : Rs) : ∀ j, (hS l s j).1.length = j
  | 0 => rfl
  | j + 1 => by rw [hS, List.length_append, hS_length l s j]; rfl
theorem hS_bad (l : List UInt8) (s : Rs) (h : s.why ≠ 0) : ∀ j, (hS l s j).2 = s
  | 0 => rfl
  | j + 1 => by
    show (byteS l (hS l s j).2).2 = s
    rw [hS_bad l s h j]
    unfold byteS
    rw [rawS_bad h]
theorem byteS_good (l : List UInt8) (s : Rs) (h : s.why = 0) (ha : s.a < l.length) : byteS l s = (l[s.a], ⟨s.a + 1, s.why, s.en⟩) := by
  have e : rawS l 1 s = ([l[s.a]], ⟨s.a + 1, s.why, s.en⟩) := by
    unfold rawS
    rw [if_neg (by simpa using h), if_neg (by omega), List.drop_eq_getElem_cons ha, List.take_succ_cons, List.take_zero]
  unfold byteS
  rw [e]
  rfl
theorem byteS_short (l : List UInt8) (s : Rs) (h : s.why = 0) (ha : l.length ≤ s.a) : (byteS l s).2 = ⟨s.a, 10, l.length⟩ := by
  unfold byteS rawS
  rw [if_neg (by simpa using h), if_pos (by omega)]
theorem hS_good (l : List UInt8) (s : Rs) (h : s.why = 0) : ∀ j, s.a + j ≤ l.length → hS l s j = ((l.drop s.a).take j, ⟨s.a + j, s.why, s.en⟩)
  | 0, _ => by cases s; rfl
  | j + 1, hj => by
    rw [hS, hS_good l s h j (by omega), byteS_good l ⟨s.a + j, s.why, s.en⟩ h (by show s.a + j < _; omega)]
    show (List.take j (List.drop s.a l) ++ [l[s.a + j]], (⟨s.a + j + 1, s.why, s.en⟩ : Rs)) = _
    rw [List.take_succ_eq_append_getElem (by rw [List.length_drop]; omega), List.getElem_drop]
    rfl
theorem hS_short (l : List UInt8) (s : Rs) (h : s.why = 0) (ha : s.a ≤ l.length) : ∀ j, l.length < s.a + j → (hS l s j).2.why = 10 ∧ (hS l s j).2.en = l.length
  | 0, hj => by omega
  | j + 1, hj => by
    show (byteS l (hS l s j).2).2.why = 10 ∧ (byteS l (hS l s j).2).2.en = l.length
    by_cases hlt : l.length < s.a + j
    · obtain ⟨h1, h2⟩ := hS_short l s h ha j hlt
      have hb : (byteS l (hS l s j).2).2 = (hS l s j).2 := by unfold byteS; rw [rawS_bad (by rw [h1]; decide)]
      rw [hb]
      exact ⟨h1, h2⟩
    · have e := hS_good l s h j (by omega)
      rw [e, byteS_short l ⟨s.a + j, s.why, s.en⟩ h (by show _ ≤ s.a + j; omega)]
      exact ⟨rfl, rfl⟩
/-- The bytes one by one end where the bytes at once do. -/
theorem run_hS (l : List UInt8) (k : Nat) (s : Rs) (t : List UInt8) (M : Lks) (P : List Nat) (ha : s.a ≤ l.length) :
    runS l k (hS l s 32).2 (M ++ [(t, (hS l s 32).1)]) P = runS l k (rawS l 32 s).2 (M ++ [(t, pad32 (rawS l 32 s).1)]) P := by
  by_cases h : s.why = 0
  · by_cases h2 : s.a + 32 ≤ l.length
    · have e : rawS l 32 s = ((l.drop s.a).take 32, ⟨s.a + 32, s.why, s.en⟩) := by unfold rawS; rw [if_neg (by simpa using h), if_neg (by omega)]
      have el : ((l.drop s.a).take 32).length = 32 := by rw [List.length_take, List.length_drop]; omega
      have ep : pad32 ((l.drop s.a).take 32) = (l.drop s.a).take 32 := by unfold pad32; rw [if_pos el]
      rw [hS_good l s h 32 h2, e]
      show _ = runS l k _ (M ++ [(t, pad32 ((l.drop s.a).take 32))]) P
      rw [ep]
    · obtain ⟨h3, h4⟩ := hS_short l s h ha 32 (by omega)
      have e : (rawS l 32 s).2 = ⟨s.a, 10, l.length⟩ := by unfold rawS; rw [if_neg (by simpa using h), if_pos (by omega)]
      rw [runS_bad _ _ _ _ _ (by rw [h3]; decide), e, runS_bad _ _ _ _ _ (by simp), h3, h4]
  · rw [hS_bad l s h 32, rawS_bad h, runS_bad _ _ _ _ _ h, runS_bad _ _ _ _ _ h]
theorem textS_small (l : List UInt8) (s : Rs) : (textS l 4000 s).1.length ≤ 4000 := by
  have h1 := countS_le l 4000 s
  have h2 := rawS_length l (countS l 4000 s).1 (countS l 4000 s).2
  unfold textS
  omega
theorem set_head (h : List UInt8) (j : Nat) (y : UInt8) (hj : h.length = j) (h32 : j < 32) : (h ++ List.replicate (32 - j) 0).set j y = h ++ [y] ++ List.replicate (32 - (j + 1)) 0 := by
  rw [List.set_append_right _ _ (by omega), show 32 - j = (32 - (j + 1)) + 1 by omega, List.replicate_succ, show j - h.length = 0 by omega, List.set_cons_zero]
  simp
def pvn (P : List Nat) : List Value := P.map fun (x : Nat) => Value.int .i64 (x : Int)
theorem pvn_snoc (P : List Nat) (a : Nat) : pvn (P ++ [a]) = pvn P ++ [.int .i64 (a : Int)] := by simp [pvn]

set_option maxRecDepth 100000 in
set_option maxHeartbeats 16000000 in
theorem decode_g (A : Option Addr) (n c : Nat) (l : List UInt8) (w : World) (hl : l.length = n) (hll : l.length ≤ 17000000) (hr : RB w A l) (hnil : A = none → c = 0) :
    Calls Try.prog 36 #[.slice A n c] w fun e w' => Below w.heap.size w w' ∧
      ((∃ why en, decS l = .inl (why, en) ∧ e = .returned (.tuple #[.slice none 0 0, .int .i64 why, .int .i64 en])) ∨
       (∃ M v, decS l = .inr M ∧ e = .returned (.tuple #[v, .int .i64 0, .int .i64 0]) ∧ w'.ownsRow w.heap.size 92 33 v M.length (lv M) ∧ (∀ x ∈ M, x.2.length = 32) ∧ (∀ x ∈ M, x.1.length ≤ 4000) ∧ M.length ≤ 4096)) := by
  subst hl
  have HR := Lib.hid hr
  have HNIL := Lib.hid hnil
  have HLL := Lib.hid hll
  obtain ⟨R, eR⟩ : ∃ R, R = decS l := ⟨_, rfl⟩
  rw [← eR]
  unfold decS at eR
  have hN := countS_le l 4096 ⟨0, 0, 0⟩
  obtain ⟨N, eN⟩ : ∃ N, N = (countS l 4096 ⟨0, 0, 0⟩).1 := ⟨_, rfl⟩
  obtain ⟨s0, eS⟩ : ∃ s0, s0 = (countS l 4096 ⟨0, 0, 0⟩).2 := ⟨_, rfl⟩
  rw [← eN, ← eS] at eR
  rw [← eN] at hN
  have HRR := Lib.hid eR.symm
  have HN := Lib.hid hN
  have EN := Lib.hid eN
  have ES := Lib.hid eS
  clear hr hnil hll eR eN eS hN
  obtain ⟨z33, hz33⟩ : ∃ z33, z33 = (lk ([], hd0)).toArray := ⟨_, rfl⟩
  have HZ33 := Lib.hid hz33
  clear hz33
  go_enter Try.func36, Try.ntmps36
  go_wp2_with fail
  refine wp_scope_loop 0 (fun a' w' => ∃ (lf q Bq : Nat) (s : Rs) (M : Lks) (P : List Nat) (vq vo vp : Value) (t : List Value),
    a' = { tmps := (.slice A l.length c :: undef :: .slice none 0 0 :: .int .i64 0 :: .int .i64 0 :: .pointer (some ⟨q, 0, none⟩) :: vo :: vp :: .int .i64 (lf : Int) :: t).toArray, defers := [] } ∧ t.length = 67 ∧
    lf + M.length ≤ 4096 ∧ RdAt w' w.heap.size q vq l s ∧ w'.ownsRow Bq 92 33 vo M.length (lv M) ∧ w'.ownsRow Bq 3 1 vp M.length (pvn P) ∧ q < Bq ∧ (∀ k, vq.ownBlock = some k → k < Bq) ∧ w.heap.size ≤ Bq ∧ (∀ k, vo.ownBlock = some k → vp.ownBlock ≠ some k) ∧ Bq ≤ w'.heap.size ∧ Below w.heap.size w w' ∧
    runS l lf s M P = R ∧ (∀ x ∈ M, x.2.length = 32) ∧ (∀ x ∈ M, x.1.length ≤ 4000) ∧ P.length = M.length)
    (fun a' _ => (intOf (a'.tmps.getD 8 undef)).toNat) rfl ?pass ?first
  case first =>
    intro hrest
    go_wp2_with fail
    refine (newReader_any A l.length c l _ rfl (by have := HLL.out; omega) HR.out HNIL.out).mono ?_
    rintro e w1 ⟨q, vq, rfl, hw, hb⟩
    have R1 := Lib.hid hw
    have B1 := Lib.hid hb
    clear hw hb
    go_wp2_with fail
    have hr0 := Lib.hid (RdAt.of_good R1.out (Nat.zero_le _))
    refine (count_g _ _ _ _ _ _ hr0.out (by have := HLL.out; omega) 4096 (by omega)).mono ?_
    rw [← EN.out, ← ES.out]
    rintro e w2 ⟨rfl, hw, hu⟩
    have hlq := R1.out.lt
    have hlv : ∀ k, vq.ownBlock = some k → k < w1.heap.size := fun k hk => (World.ownsRow.lt R1.out.own k hk).2
    have B2 := Lib.hid (below_upd B1.out B1.out.size hu (fun k hk => by rw [hk]; exact R1.out.base))
    have hsz := hu.size
    have R2 := Lib.hid hw
    have hsB := B1.out.size
    clear hw hu
    go_wp2_with fail
    go_step3
    rename_i hK
    refine hK _ _ (hrest _ _ ?_)
    exact ⟨N, q, w1.heap.size, s0, [], [], vq, _, _, _, rfl, rfl, by have := HN.out; simp; omega, R2.out, World.ownsRow_nil _ _ _ _, World.ownsRow_nil _ _ _ _, hlq, hlv, hsB, fun k hk => by simp [Value.ownBlock] at hk, hsz, B2.out, HRR.out, (fun x hx => by cases hx), (fun x hx => by cases hx), rfl⟩
  case pass =>
    rintro a' w' ⟨lf, q, Bq, s, M, P, vq, vo, vp, tl, rfl, htl0, hil, hrd, ho, hp, hqB, hvB, hwB, hdis, hBs, hb, hrun, hMh, hMt, hPl⟩
    obtain ⟨u, rfl⟩ := tail67 tl htl0
    clear htl0
    have HIL := Lib.hid hil
    have HRD := Lib.hid hrd
    have HO := Lib.hid ho
    have HP := Lib.hid hp
    have HQB := Lib.hid hqB
    have HVB := Lib.hid hvB
    have HWB := Lib.hid hwB
    have HDIS := Lib.hid hdis
    have HBS := Lib.hid hBs
    have HB := Lib.hid hb
    have HRUN := Lib.hid hrun
    have HMH := Lib.hid hMh
    have HMT := Lib.hid hMt
    have HPLN := Lib.hid hPl
    clear hil hrd ho hp hqB hvB hwB hdis hBs hb hrun hMh hMt hPl
    by_cases h0 : lf = 0
    · subst h0
      have hM4 : M.length ≤ 4096 := by have := HIL.out; omega
      obtain ⟨i, ei⟩ : ∃ i, i = M.length := ⟨_, rfl⟩
      rw [← ei] at hM4 HO HP
      have EI := Lib.hid ei
      clear ei
      go_wp2_with fail
      refine (end_g _ _ _ _ _ _ HRD.out (by have := HLL.out; omega)).mono ?_
      have hru := HRUN.out
      unfold runS concS at hru
      obtain ⟨ew, een, eend⟩ : ∃ ew een, endS l s = (ew, een) := ⟨_, _, rfl⟩
      rw [eend] at hru ⊢
      dsimp only at hru ⊢
      rintro e w2 ⟨rfl, hu⟩
      have hu0 := hu
      have ho2 := own_upd HO.out hu (fun k hk e => by have := (World.ownsRow.lt HO.out k hk).1; have := HQB.out; omega)
      have hb2 := below_upd HB.out HB.out.size hu (fun k hk => by rw [hk]; exact HRD.out.base)
      obtain ⟨Ao, co, rfl, _⟩ := own_slice ho2
      have HO2 := Lib.hid ho2
      have HB2 := Lib.hid hb2
      have hp2 := own_upd HP.out hu0 (fun k hk e => by have := (World.ownsRow.lt HP.out k hk).1; have := HQB.out; omega)
      have HP2 := Lib.hid hp2
      clear ho2 hb2 hu hu0 hp2 eend
      by_cases hew : ew ≠ 0
      · rw [if_pos hew] at hru
        have HRU := Lib.hid hru
        have hne : (ew != 0) = true := by simpa using hew
        clear hru
        go_wp2_with fail
        simp only [Exit.jump]
        go_ret3
        exact ⟨HB2.out, .inl ⟨_, _, HRU.out.symm, rfl⟩⟩
      obtain rfl : ew = 0 := Classical.byContradiction hew
      rw [if_neg (by simp)] at hru
      have HRU := Lib.hid hru
      clear hru
      go_wp2_with fail
      obtain ⟨K, eK⟩ : ∃ K, K = checkOf M := ⟨_, rfl⟩
      have hKl : K ≤ i := by rw [eK]; have := checkOf_le M; have := EI.out; omega
      refine (check_any Ao i co M w2 EI.out.symm (by omega) (fun x hx => by have := HMT.out x hx; omega) HMH.out (own_RC HO2.out)).mono ?_
      rw [← eK]
      rintro e w3 ⟨rfl, hb3⟩
      have HO3 := Lib.hid (own_below HO2.out hb3)
      have HP3 := Lib.hid (own_below HP2.out hb3)
      have HB3 := Lib.hid (below_below HB2.out HB2.out.size hb3)
      have HEK := Lib.hid eK
      clear hb3 eK
      by_cases hKi : K < i
      · obtain ⟨gp, cp, rfl, _, _⟩ := own_form HP3.out (by omega)
        have kp : w3.cell? ⟨gp, K, none⟩ = some (.int .i64 ((P.getD K 0 : Nat) : Int)) := by
          have hKP : K < P.length := by rw [HPLN.out, ← EI.out]; exact hKi
          have hlp : 0 < (pvn P).length := by simp [pvn]; omega
          obtain ⟨ad, e7, hc7⟩ := own_RC HP3.out hlp
          cases e7
          have := hc7 K _ (show (pvn P)[K]? = some (.int .i64 ((P.getD K 0 : Nat) : Int)) by simp [pvn, List.getElem?_eq_getElem hKP])
          rwa [add_off, Nat.zero_add] at this
        obtain ⟨pk, epk⟩ : ∃ pk, pk = P.getD K 0 := ⟨_, rfl⟩
        rw [← epk] at kp
        have EPK := Lib.hid epk
        clear epk
        have hK0 : (0 : Int) ≤ (K : Int) := by omega
        have hK1 : (K : Int) < (i : Int) := by omega
        have HKI := Lib.hid hKi
        clear hKi hKl
        go_upto_region 22 with fail
        go_region
        all_goals
          go_wp2_with fail
          simp only [Exit.jump]
          go_ret3
          refine ⟨HB3.out.drew, .inl ⟨12, (pk : Int), ?_, rfl⟩⟩
          rw [← HRU.out, ← HEK.out, if_pos (by rw [← EI.out]; exact HKI.out), ← EPK.out]
      · obtain rfl : K = i := by omega
        clear hKi hKl
        go_wp2_with fail
        simp only [Exit.jump]
        go_ret3
        refine ⟨HB3.out, .inr ⟨M, _, ?_, rfl, by rw [← EI.out]; exact own_lower HO3.out HWB.out, HMH.out, HMT.out, by rw [← EI.out]; exact hM4⟩⟩
        rw [← HRU.out, ← HEK.out, if_neg (by rw [EI.out]; exact Nat.lt_irrefl _)]
    · obtain ⟨m, rfl⟩ : ∃ m, lf = m + 1 := ⟨lf - 1, by omega⟩
      obtain ⟨i, ei⟩ : ∃ i, i = M.length := ⟨_, rfl⟩
      rw [← ei] at HIL HO HP HPLN
      have EI := Lib.hid ei
      have hmN : (m : Int) ≤ 4096 := by have := HIL.out; omega
      have hlc : (l.length : Int) ≤ 17000000 := by have := HLL.out; omega
      clear h0 ei
      obtain ⟨la, ela⟩ : ∃ la, la = leftS l s := ⟨_, rfl⟩
      have ELA := Lib.hid ela
      clear ela
      by_cases hlz0 : la = 0
      · subst hlz0
        obtain ⟨hx1, hx2⟩ := exit_short l m s M P HRD.out.le ELA.out.symm
        rw [HRUN.out] at hx1
        obtain ⟨yb, syb, eyb⟩ : ∃ yb syb, byteS l s = (yb, syb) := ⟨_, _, rfl⟩
        rw [eyb] at hx1 hx2
        dsimp only at hx1 hx2
        obtain ⟨ew, een, eend⟩ : ∃ ew een, endS l syb = (ew, een) := ⟨_, _, rfl⟩
        rw [eend] at hx1 hx2
        dsimp only at hx2
        have EYB := Lib.hid eyb
        have EEND := Lib.hid eend
        have HX1 := Lib.hid hx1
        have hne : (ew != 0) = true := by simpa using hx2
        clear eyb eend hx1 hx2
        have hm1 : (0 : Int) < ((m + 1 : Nat) : Int) := by omega
        go_wp2_with fail
        refine (left_g _ _ _ _ _ _ HRD.out (by have := HLL.out; omega)).mono ?_
        rw [← ELA.out]
        rintro e w2 ⟨rfl, hw, hu⟩
        have R2 := Lib.hid hw
        have HB2 := Lib.hid (below_upd HB.out HB.out.size hu (fun k hk => by rw [hk]; exact HRD.out.base))
        clear hw hu
        go_wp2_with fail
        refine (byte_g _ _ _ _ _ _ R2.out (by have := HLL.out; omega)).mono ?_
        rw [EYB.out]
        rintro e w3 ⟨rfl, hw, hu⟩
        have R3 := Lib.hid hw
        have HB3 := Lib.hid (below_upd HB2.out HB2.out.size hu (fun k hk => by rw [hk]; exact HRD.out.base))
        clear hw hu
        go_wp2_with fail
        refine (end_g _ _ _ _ _ _ R3.out (by have := HLL.out; omega)).mono ?_
        rw [EEND.out]
        rintro e w4 ⟨rfl, hu⟩
        have HB4 := Lib.hid (below_upd HB3.out HB3.out.size hu (fun k hk => by rw [hk]; exact HRD.out.base))
        clear hu
        go_wp2_with fail
        simp only [Exit.jump]
        go_ret3
        exact ⟨HB4.out, .inl ⟨_, _, HX1.out, rfl⟩⟩
      have hlz : (0 : Int) < (la : Int) := by omega
      have hgood : s.why = 0 ∧ s.a < l.length ∧ la = l.length - s.a := by
        have e := ELA.out
        unfold leftS at e
        by_cases hw : s.why = 0
        · rw [if_neg (by simpa using hw)] at e
          exact ⟨hw, by omega, e⟩
        · rw [if_pos hw] at e
          exact absurd e hlz0
      have HGOOD := Lib.hid hgood
      obtain ⟨t, s1, et⟩ : ∃ t s1, textS l 4000 s = (t, s1) := ⟨_, _, rfl⟩
      have ET := Lib.hid et
      have HTL := Lib.hid (show t.length ≤ 4000 by have := textS_small l s; rw [et] at this; exact this)
      have hrs : runS l (m + 1) s M P = runS l m (rawS l 32 s1).2 (M ++ [(t, pad32 (rawS l 32 s1).1)]) (P ++ [s.a]) := by
        show (if s.why ≠ 0 then _ else _) = _
        rw [if_neg (by simpa using hgood.1)]
        unfold linkS
        rw [et]
      rw [HRUN.out] at hrs
      have HRS := Lib.hid hrs
      clear et hgood hrs hlz0
      go_wp2_with fail
      refine (left_g _ _ _ _ _ _ HRD.out (by have := HLL.out; omega)).mono ?_
      rw [← ELA.out]
      rintro e w2 ⟨rfl, hw, hu⟩
      have R2 := Lib.hid hw
      have U2 := Lib.hid hu
      clear hw hu
      have hla2 : (la : Int) ≤ 17000000 := by have := HGOOD.out; have := HLL.out; omega
      have EPA := Lib.hid (show (l.length : Int) - (la : Int) = (s.a : Int) by have := HGOOD.out; omega)
      go_wp2_with fail
      refine (left_g _ _ _ _ _ _ R2.out (by have := HLL.out; omega)).mono ?_
      rw [← ELA.out]
      rintro e w3 ⟨rfl, hw, hu⟩
      have R3 := Lib.hid hw
      have hu3 := U2.out.trans hu (fun _ _ h => h)
      have HP3 := Lib.hid (own_upd HP.out hu3 (fun k hk e => by have := (World.ownsRow.lt HP.out k hk).1; have := HQB.out; omega))
      have HO3 := Lib.hid (own_upd HO.out hu3 (fun k hk e => by have := (World.ownsRow.lt HO.out k hk).1; have := HQB.out; omega))
      have HB3 := Lib.hid (below_upd HB.out HB.out.size hu3 (fun k hk => by rw [hk]; exact HRD.out.base))
      have HS3 := Lib.hid (show Bq ≤ w3.heap.size from Nat.le_trans HBS.out hu3.size)
      have HVL := Lib.hid (show ∀ k, vo.ownBlock = some k → k < w3.heap.size from fun k hk => (World.ownsRow.lt HO3.out k hk).2)
      clear hw hu hu3 U2
      go_wp2_with (at_builtin; refine append_any rfl _ _ 22 rfl Bq 3 (.int .i64 0) 1 8 Try.underlying22 infoI rfl (by omega) (by omega) vp i (pvn P) rfl (HP3.out.alloc _) _ 1 _ [.int .i64 ((l.length : Int) - (la : Int))] rfl rfl (RC_newL _ [.int .i64 ((l.length : Int) - (la : Int))] 3) (by intro u hu; simp at hu; rw [hu]; rfl) ?c1 ?c2 ?_)
      case c1 => have := HIL.out; omega
      case c2 => have := HS3.out; simp; omega
      intro v4 w4 ho4 hg4 hat4
      have hu4 : Upd (fun k => vp.ownBlock = some k) w3 w4 := ((Upd.refl _ w3).alloc _).grown hg4 (fun k hk _ => hk)
      have HP4 := Lib.hid (show w4.ownsRow Bq 3 1 v4 (i + 1) (pvn (P ++ [s.a])) by rw [pvn_snoc, ← EPA.out]; exact ho4)
      have HO4 := Lib.hid (own_upd HO3.out hu4 (fun k hk e => HDIS.out k hk e))
      have R4 := Lib.hid (R3.out.upd hu4 (fun e => by have := (World.ownsRow.lt HP3.out _ e).1; have := HQB.out; omega) (fun k hk e => by have := (World.ownsRow.lt HP3.out _ e).1; have := HVB.out k hk; omega))
      have HB4 := Lib.hid (below_upd HB3.out HB3.out.size hu4 (fun k hk => by have := (World.ownsRow.lt HP3.out k hk).1; have := HWB.out; omega))
      have HS4 := Lib.hid (show w3.heap.size ≤ w4.heap.size from hu4.size)
      have HD4 := Lib.hid (show ∀ k, vo.ownBlock = some k → v4.ownBlock ≠ some k from fun k hk e => by
        rcases hat4 with h | h
        · exact HDIS.out k hk (h ▸ e)
        · rw [h] at e
          have h1 := HVL.out k hk
          simp at e
          omega)
      clear ho4 hg4 hat4 hu4 HP3 HO3 HB3 R3 R2
      go_wp2_with fail
      refine (text_g _ _ _ _ _ _ R4.out (by have := HLL.out; omega) 4000 (by omega)).mono ?_
      rw [ET.out]
      dsimp only
      rintro e w5 ⟨rfl, hw, hu⟩
      have R5 := Lib.hid hw
      have HP5 := Lib.hid (own_upd HP4.out hu (fun k hk e => by have := (World.ownsRow.lt HP4.out k hk).1; have := HQB.out; omega))
      have HO5 := Lib.hid (own_upd HO4.out hu (fun k hk e => by have := (World.ownsRow.lt HO4.out k hk).1; have := HQB.out; omega))
      have HB5 := Lib.hid (below_upd HB4.out HB4.out.size hu (fun k hk => by rw [hk]; exact R4.out.base))
      have HS5 := Lib.hid (show Bq ≤ w5.heap.size from Nat.le_trans (Nat.le_trans HS3.out HS4.out) hu.size)
      clear hw hu HP4 HO4 HB4 R4 HS3 HS4 HVL
      go_upto_region 9 with (refine wpList_store_row rfl 92 (.tmp 9) (.tmp 37) rfl w5.heap.size (lk (t, hd0)).toArray rfl (by rfl) 92 _ (heap_alloc_new w5 _) (by kernel_rfl) (by kernel_rfl) (all_oneCell_toArray (lk_one _)) ?_)
      obtain ⟨z, hz⟩ : ∃ z, z = w5.heap.size := ⟨_, rfl⟩
      rw [← hz]
      have hBz : Bq ≤ z := by rw [hz]; exact HS5.out
      generalize hw6 : World.setRow (World.alloc w5 _) z _ = w6
      have hz6 : w6.heap[z]? = some (.cells (lk (t, (hS l s1 0).1 ++ List.replicate (32 - 0) 0)).toArray 92) := by rw [← hw6, hz]; exact setRow_heap _ _ _ _ _ _ (heap_alloc_new w5 _)
      have hb56 : Below w5.heap.size w5 w6 := by rw [← hw6, hz]; exact below_setRow ((Below.refl _ _).alloc (Nat.le_refl _) _) _ _ (Nat.le_refl _)
      have R6 := Lib.hid (R5.out.below hb56)
      have HP6 := Lib.hid (own_below HP5.out hb56)
      have HO6 := Lib.hid (own_below HO5.out hb56)
      have HB6 := Lib.hid (below_below HB5.out HB5.out.size hb56)
      have HZ6 := Lib.hid hz6
      have HBZ := Lib.hid hBz
      have HVZ := Lib.hid (show ∀ k, vo.ownBlock = some k → k ≠ z from fun k hk e => by have := (World.ownsRow.lt HO5.out k hk).2; omega)
      have HPZ2 := Lib.hid (show ∀ k, v4.ownBlock = some k → k ≠ z from fun k hk e => by have := (World.ownsRow.lt HP5.out k hk).2; omega)
      have R5L := Lib.hid R5.out.le
      clear hw6 hz6 hb56 hBz hz R5 HP5 HO5 HB5 HS5
      go_wp2_with fail
      go_loopg [38] 32 (fun k s38 wr => ∃ j : Nat, j ≤ 32 ∧ k = 32 - j ∧ s38 = .int .i64 (j : Int) ∧ RdAt wr w.heap.size q vq l (hS l s1 j).2 ∧ wr.heap[z]? = some (.cells (lk (t, (hS l s1 j).1 ++ List.replicate (32 - j) 0)).toArray 92) ∧ Upd (fun k => k = q ∨ k = z) w6 wr)
      case atStart => exact ⟨0, Nat.zero_le _, by omega, rfl, R6.out, HZ6.out, Upd.refl _ _⟩
      case round =>
        obtain ⟨j, hj, hk, rfl, hrd, hzc, hu⟩ := hrel
        have HK := Lib.hid hk
        have HRJ := Lib.hid hrd
        have HZJ := Lib.hid hzc
        have HUJ := Lib.hid hu
        clear hk hrd hzc hu R6 HZ6
        by_cases hlt : j < 32
        · obtain ⟨y, sy, ey⟩ : ∃ y sy, byteS l (hS l s1 j).2 = (y, sy) := ⟨_, _, rfl⟩
          have hnx : hS l s1 (j + 1) = ((hS l s1 j).1 ++ [y], sy) := by rw [hS, ey]
          have hset := set_head (hS l s1 j).1 j y (hS_length l s1 j) hlt
          have EY := Lib.hid ey
          have HNX := Lib.hid hnx
          have HSET := Lib.hid hset
          have hhl : ((hS l s1 j).1 ++ List.replicate (32 - j) 0).length = 32 := by rw [List.length_append, hS_length, List.length_replicate]; omega
          obtain ⟨hh, ehh⟩ : ∃ hh, hh = (hS l s1 j).1 ++ List.replicate (32 - j) 0 := ⟨_, rfl⟩
          rw [← ehh] at hhl HZJ HSET
          have hol : (lk (t, hh)).length = 33 := lk_length _ hhl
          obtain ⟨ov, hov⟩ : ∃ ov, (lk (t, hh))[1 + j]? = some ov := ⟨_, List.getElem?_eq_getElem (by rw [hol]; omega)⟩
          have HOV := Lib.hid hov
          clear ey hnx hset hhl ehh
          have hj0 : (0 : Int) ≤ (j : Int) := by omega
          have hj1 : (j : Int) < 32 := by omega
          have HLT := Lib.hid hlt
          clear hol hov hlt hj
          go_wp2_with fail
          refine (byte_g _ _ _ _ _ _ HRJ.out (by have := HLL.out; omega)).mono ?_
          rw [EY.out]
          dsimp only
          rintro e w8 ⟨rfl, hw, hu⟩
          have hqz : q ≠ z := by have := HQB.out; have := HBZ.out; omega
          have hz8 : w8.heap[z]? = some (.cells (lk (t, hh)).toArray 92) := (hu.block z (Array.getElem?_eq_some_iff.1 HZJ.out).1 (fun e => hqz e.symm)).trans HZJ.out
          have cz : w8.cell? ⟨z, 1 + j, none⟩ = some ov := by
            rw [cell_of_row w8 z (1 + j) _ _ _ hz8]
            simpa using HOV.out
          have fz := lk_frozen hz8 (1 + j)
          have hwy : IntKind.u8.wrap (un8 y) = un8 y := by have := un8_range y; rw [IntKind.wrap_u8]; omega
          have R8 := Lib.hid hw
          have HZ8 := Lib.hid hz8
          have HU8 := Lib.hid (show Upd (fun k => k = q ∨ k = z) w6 w8 from HUJ.out.trans hu (fun _ _ h => .inl h))
          have HQZ := Lib.hid hqz
          clear hw hu hqz hz8
          go_wp2_with fail
          go_roundg (32 - (j + 1))
          case measure => have := HK.out; have := HLT.out; omega
          case rel =>
            have hst : Upd (fun k => k = z) w8 (w8.setCell ⟨z, 1 + j, none⟩ (.int .u8 (un8 y))) := (Upd.refl (fun k => k = z) w8).setCell (fun _ => rfl) _
            refine ⟨j + 1, HLT.out, rfl, by go_num, ?_, ?_, HU8.out.trans hst (fun _ _ h => .inr h)⟩
            · rw [HNX.out]
              exact R8.out.upd hst HQZ.out (fun k hk e => by have := HVB.out k hk; have := HBZ.out; omega)
            · rw [setCell_at HZ8.out, List.setIfInBounds_toArray, lk_set, HSET.out, HNX.out]
        · obtain rfl : j = 32 := by omega
          have hhl := hS_length l s1 32
          have HRH := Lib.hid (run_hS l m s1 t M (P ++ [s.a]) (by have := R5L.out; exact this))
          obtain ⟨h, sh, eh⟩ : ∃ h sh, hS l s1 32 = (h, sh) := ⟨_, _, rfl⟩
          rw [eh] at hhl HZJ HRJ HRH
          dsimp only at hhl
          have hzj := HZJ.out
          rw [show (h, sh).1 ++ List.replicate (32 - 32) (0 : UInt8) = h by simp] at hzj
          have HZJ := Lib.hid hzj
          have R9 := Lib.hid (show RdAt wr w.heap.size q vq l sh from HRJ.out)
          have HRH2 := Lib.hid (show runS l m sh (M ++ [(t, h)]) (P ++ [s.a]) = R from HRH.out.trans HRS.out.symm)
          have HHL := Lib.hid hhl
          clear hzj eh hhl
          have hlkl := lk_length (t, h) HHL.out
          have HPw := Lib.hid (own_upd HP6.out HUJ.out (fun k hk e => e.elim (fun e => by have := (World.ownsRow.lt HP6.out k hk).1; have := HQB.out; omega) (HPZ2.out k hk)))
          have HOw := Lib.hid (own_upd HO6.out HUJ.out (fun k hk e => e.elim (fun e => by have := (World.ownsRow.lt HO6.out k hk).1; have := HQB.out; omega) (HVZ.out k hk)))
          have HBw := Lib.hid (below_upd HB6.out HB6.out.size HUJ.out (fun k hk => by
            rcases hk with e | e
            · rw [e]; exact HRD.out.base
            · rw [e]; exact Nat.le_trans HWB.out HBZ.out))
          obtain ⟨lc, elc⟩ : ∃ lc, lc = (lk (t, h)).toArray := ⟨_, rfl⟩
          have hil : (Try.prog.info? 92).map (·.size) = some lc.size := by rw [elc, List.size_toArray, hlkl]; exact info33
          rw [← elc] at HZJ
          have HF1 := Lib.hid (show Try.prog.builtSlice 92 1 [(0, .agg lc)] = some lc by rw [elc]; exact built_one t h HHL.out)
          have HIL2 := Lib.hid hil
          have ELC := Lib.hid elc
          have HLK := Lib.hid hlkl
          have HSw := Lib.hid (show Bq ≤ wr.heap.size by have := (Array.getElem?_eq_some_iff.1 HZJ.out).1; have := HBZ.out; omega)
          have HPSw := Lib.hid (show ∀ k, v4.ownBlock = some k → k < wr.heap.size from fun k hk => (World.ownsRow.lt HPw.out k hk).2)
          clear hlt hj HK HRJ HUJ HP6 HO6 HB6 hlkl elc hil
          go_upto_region 14 with fail
          refine wp_region_lit ?_
          refine Great.wpList_readTo rfl _ rfl vo rfl ?_
          refine wpList_load_row rfl 92 (.tmp 9) rfl z rfl 92 lc (0, 0) _ HZJ.out Try.underlying92 rfl HIL2.out ?_
          refine Great.wpList_buildSliceTo rfl 71 92 1 _ rfl wr.heap.size rfl (some 50) rfl Try.underlying71 lc (by simp only [List.map_toArray, List.map_cons, List.map_nil]; exact HF1.out) ?_
          refine append_any rfl (.tmp 48) (.tmp 50) 71 rfl Bq 92 (.agg (lk ([], hd0)).toArray) 33 48 Try.underlying71 infoLk (by kernel_rfl) (by omega) (by omega) vo i (lv M) rfl (HOw.out.alloc _) (some ⟨wr.heap.size, 0, none⟩) 1 1 (lk (t, h)) rfl ?c1 ?c2 (lk_one _) ?c3 ?c4 ?_
          case c1 => rw [HLK.out]
          case c2 => rw [ELC.out]; exact RC_newL wr (lk (t, h)) _
          case c3 => have := HIL.out; omega
          case c4 => have := HSw.out; simp; omega
          intro v9 w9 ho9 hg9 hat9
          have hu9 : Upd (fun k => vo.ownBlock = some k) wr w9 := ((Upd.refl _ wr).alloc _).grown hg9 (fun k hk _ => hk)
          have HO9 := Lib.hid (show w9.ownsRow Bq 92 33 v9 (i + 1) (lv (M ++ [(t, h)])) by rw [lv_snoc]; exact ho9)
          have HP9 := Lib.hid (own_upd HPw.out hu9 (fun k hk e => HD4.out k e hk))
          have R10 := Lib.hid (R9.out.upd hu9 (fun e => by have := (World.ownsRow.lt HOw.out _ e).1; have := HQB.out; omega) (fun k hk e => by have := (World.ownsRow.lt HOw.out _ e).1; have := HVB.out k hk; omega))
          have HB9 := Lib.hid (below_upd HBw.out HBw.out.size hu9 (fun k hk => by have := (World.ownsRow.lt HOw.out k hk).1; have := HWB.out; omega))
          have HS9 := Lib.hid (show Bq ≤ w9.heap.size from Nat.le_trans HSw.out hu9.size)
          have HD9 := Lib.hid (show ∀ k, v9.ownBlock = some k → v4.ownBlock ≠ some k from fun k hk e => by
            rcases hat9 with h | h
            · exact HD4.out k (h ▸ hk) e
            · rw [h] at hk
              have h1 := HPSw.out k e
              simp at hk
              omega)
          clear ho9 hg9 hat9 hu9
          go_wp2_with fail
          go_step3
          have hML : (M ++ [(t, h)]).length = i + 1 := by rw [List.length_append, ← EI.out]; rfl
          refine ⟨rfl, ⟨m, q, Bq, sh, M ++ [(t, h)], P ++ [s.a], vq, v9, v4, _, rfl, rfl, by rw [hML]; have := HIL.out; omega, R10.out, by rw [hML]; exact HO9.out, by rw [hML]; exact HP9.out, HQB.out, HVB.out, HWB.out, HD9.out, HS9.out, HB9.out, HRH2.out, ?_, ?_, by rw [hML, List.length_append, HPLN.out]; rfl⟩, by simp [intOf]⟩
          · intro x hx
            rcases List.mem_append.1 hx with hx | hx
            · exact HMH.out x hx
            · rw [List.mem_singleton.1 hx]; exact HHL.out
          · intro x hx
            rcases List.mem_append.1 hx with hx | hx
            · exact HMT.out x hx
            · rw [List.mem_singleton.1 hx]; exact HTL.out

end Go.Proofs.Ytjakhemolecbnaa
end
