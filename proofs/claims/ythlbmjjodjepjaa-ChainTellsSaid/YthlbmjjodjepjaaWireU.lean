/-
  The walks of wire again, with the blocks that each call may turn.
-/
import Derived.Test.YthlbmjjodjepjaaWire
import Derived.Test.YthlbmjjodjepjaaWalFrame
import Derived.Test.YthlbmjjodjepjaaChain
import Derived.Lib.AppendStr
set_option linter.unusedVariables false
set_option linter.unusedSimpArgs false
namespace Go.Proofs.Ythlbmjjodjepjaa
open Go.RowKit

section
variable {P : Program}
/-- 'append(v, s...)', v a row of one's own that is not empty: where the new row lies. -/
theorem run_append_str (w : World) (base : Nat) (t u ty e : TypeId) (i : TypeInfo) (ht : P.underlying t = some (.slice e)) (hu : P.underlying u = some .string) (hi : P.info? e = some i) (hz : i.zero = some (.int .u8 0))
    (hsize : i.size = 1) (hby : i.bytes = 1) (v : Value) (n : Nat) (xs : List Value) (hown : w.ownsRow base e 1 v n xs) (hn0 : 0 < n) (s : ByteArray) (hn : n + s.size ≤ 1000000000) (hbase : base ≤ w.heap.size) :
    ∃ v' w', (Builtin.append_ #[t, u] ty #[v, .string s]).run P w = .ok v' w' ∧ w'.ownsRow base e 1 v' (n + s.size) (xs ++ Lib.strCells s) ∧ w.grownBy w' v.ownBlock ∧ (v'.ownBlock = v.ownBlock ∨ v'.ownBlock = some w.heap.size) := by
  obtain ⟨v', w', hr, h2, h3, _⟩ := Lib.run_append_own_string (P := P) w base t u ty e i ht hu hi hz hsize hby v n xs hown s (by simp only [maxLen]; omega) (by omega) hbase
  refine ⟨v', w', hr, h2, h3, ?_⟩
  have hxl : xs.length = n := by simpa using hown.1
  rcases hown.2 with ⟨_, h0⟩ | ⟨g, cap, cur, rfl, hb, hg, hnc, hcm, hcs, htk⟩
  · omega
  · by_cases hroom : n + s.size ≤ cap
    · have hr2 := Lib.run_append_room_string (P := P) w t u ty e i ht hu hi hsize g n cap cur hg s hroom (by rw [hcs]; omega)
      rw [hr] at hr2
      simp only [Result.ok.injEq] at hr2
      left
      rw [hr2.1]
      rfl
    · have holds : ∀ j u, xs[j]? = some u → w.cell? ((⟨g, 0, none⟩ : Addr).add j) = some u := hown.cells (g := g) rfl
      have hr2 := Lib.run_append_grow_string (P := P) w t u ty e i (.int .u8 0) ht hu hi hz ⟨g, 0, none⟩ n cap xs (by rw [hsize, hxl, Nat.mul_one]) holds s (by omega) (by omega) (by rw [hby]; exact growslice_fits (by omega) (by omega))
      rw [hr] at hr2
      simp only [Result.ok.injEq] at hr2
      right
      rw [hr2.1]
      rfl
theorem wpList_append_str {ops : Array Oper} {rest : List Oper} {o : Oper} {a : Act} {w : World} {Q : Exit → Act → World → Prop} (hgd : o.guard = none) (sl x : Operand) (t u : TypeId)
    (ho : o.op = .call { callee := .builtin .append, args := #[sl, x], argTypes := #[t, u] })
    (base : Nat) (e : TypeId) (i : TypeInfo) (ht : P.underlying t = some (.slice e)) (hu : P.underlying u = some .string) (hi : P.info? e = some i) (hz : i.zero = some (.int .u8 0))
    (hsize : i.size = 1) (hby : i.bytes = 1) (v : Value) (n : Nat) (xs : List Value) (hs : a.eval sl = v) (hown : w.ownsRow base e 1 v n xs) (hn0 : 0 < n) (s : ByteArray) (hx : a.eval x = .string s) (hn : n + s.size ≤ 1000000000) (hbase : base ≤ w.heap.size)
    (h : ∀ v' w', w'.ownsRow base e 1 v' (n + s.size) (xs ++ Lib.strCells s) → w.grownBy w' v.ownBlock → (v'.ownBlock = v.ownBlock ∨ v'.ownBlock = some w.heap.size) → wpList P ops Q rest (a.put o.dst v') w') : wpList P ops Q (o :: rest) a w := by
  refine wpList_plain hgd fun K hK => ?_
  obtain ⟨v', w', hr, h2, h3, h4⟩ := run_append_str (P := P) w base t u o.type e i ht hu hi hz hsize hby v n xs hown hn0 s hn hbase
  unfold Oper.wp execOp
  simp only [ho, resolve, invoke, builtin, Sem.run_bind, Sem.run_pure, Result.andThen_ok, List.map_toArray, List.map_cons, List.map_nil, hs, hx, hr]
  exact hK _ _ (h v' w' h2 h3 h4)
end

/-- The blocks that a writer's calls may turn. -/
def WF (p : Nat) (v : Value) (k : Nat) : Prop := k = p ∨ v.ownBlock = some k

set_option maxHeartbeats 4000000 in
theorem put2_any (w : World) (B p : Nat) (v : Value) (b : List UInt8) (h : WriterAt w B p v b) (n size : Nat) (hn : n < 18446744073709551616) (hs : size ≤ 8) (hbl : b.length ≤ 100000000) :
    Calls Try.prog 84 #[.pointer (some ⟨p, 0, none⟩), .int .u64 (n : Int), .int .i64 (size : Int)] w fun e w' => ∃ v', e = .returned (.tuple #[]) ∧ WriterAt w' B p v' (b ++ putPre n size size) ∧ Upd (WF p v) w w' ∧ (∀ k, v'.ownBlock = some k → v.ownBlock = some k ∨ w.heap.size ≤ k) := by
  have H := Lib.hid h
  clear h
  go_enter Try.func84, Try.ntmps84
  go_wp2
  refine wp_scope_loop 0 (fun a' w' => ∃ (i j : Nat) (vc : Value) (u8 u9 u10 u11 u12 u13 u14 u15 u16 u17 u18 u19 u20 u21 u22 u23 u24 u25 : Value),
    a' = { tmps := #[.pointer (some ⟨p, 0, none⟩), .int .u64 (n : Int), .int .i64 (size : Int), undef, undef, undef, .int .i64 (j : Int), .int .i64 (size : Int), u8, u9, u10, u11, u12, u13, u14, u15, u16, u17, u18, u19, u20, u21, u22, u23, u24, u25], defers := [] } ∧
    i + j = size ∧ WriterAt w' B p vc (b ++ putPre n size i) ∧ Upd (WF p v) w w' ∧ (∀ k, vc.ownBlock = some k → v.ownBlock = some k ∨ w.heap.size ≤ k)) (fun a' _ => (intOf (a'.tmps.getD 6 undef)).toNat) rfl ?pass ?first
  case first =>
    intro hrest
    go_wp2
    go_step3
    rename_i hK
    refine hK _ _ (hrest _ _ ?_)
    refine ⟨0, size, v, _, _, _, _, _, _, _, _, _, _, _, _, _, _, _, _, _, _, rfl, by omega, ?_, Upd.refl _ _, fun k h => .inl h⟩
    rw [show putPre n size 0 = [] from rfl, List.append_nil]
    exact H.out
  case pass =>
    rintro a' w' ⟨i, j, vc, u8, u9, u10, u11, u12, u13, u14, u15, u16, u17, u18, u19, u20, u21, u22, u23, u24, u25, rfl, hij, hw, hb, hvc⟩
    clear H
    have H := Lib.hid hw
    have HB := Lib.hid hb
    have HVC := Lib.hid hvc
    clear hw hb hvc
    by_cases h0 : j = 0
    · subst h0
      have hi : i = size := by omega
      subst hi
      go_wp2
      simp only [Exit.jump]
      refine bodyPost_ret (results_none rfl _ _ _) rfl ?_
      exact ⟨vc, rfl, H.out, HB.out, HVC.out⟩
    · obtain ⟨j, rfl⟩ : ∃ m, j = m + 1 := ⟨j - 1, by omega⟩
      have h8 : size - 1 - i = j := by omega
      obtain ⟨z, hz⟩ : ∃ z : Int, z = 8 * (j : Int) := ⟨_, rfl⟩
      have hB : (n : Int) / 2 ^ z.toNat % 256 = un8 (byteAt n (8 * j)) := by
        rw [byteAt_un8, show z.toNat = 8 * j by omega, Int.natCast_emod, Int.natCast_ediv, Int.natCast_pow]
        rfl
      have hB2 : IntKind.u8.wrap ((n : Int) / 2 ^ z.toNat) = un8 (byteAt n (8 * j)) := by rw [IntKind.wrap_u8]; exact hB
      have hz0 : 0 ≤ z := by omega
      have hz1 : z ≤ 56 := by omega
      have hw8 : IntKind.i64.wrap (8 * (j : Int)) = z := by rw [IntKind.wrap_i64]; omega
      clear hz
      have hj0 : (0 : Int) ≤ (j : Int) := by omega
      have hj7 : (j : Int) ≤ 7 := by omega
      have hn0 : (0 : Int) ≤ (n : Int) := by omega
      have hn1 : (n : Int) ≤ 18446744073709551615 := by omega
      have HN := Lib.hid hn
      clear hn
      have HS := Lib.hid (putPre_snoc n size i)
      rw [h8] at HS
      have HIJ := Lib.hid hij
      have HLB := Lib.hid (putPre_length n size i)
      clear h0 hij h8
      generalize putPre n size i = pre at *
      generalize byteAt n (8 * j) = bb at *
      obtain ⟨A0, c0, rfl, _⟩ := own_slice H.out.own
      have h0 := H.out.c0
      have hlt := H.out.lt
      have hy : (b ++ pre).length ≤ 100000100 := by have := HLB.out; have := HIJ.out; rw [List.length_append]; omega
      have HY := Lib.hid (show (b ++ pre) ++ [bb] = b ++ (pre ++ [bb]) by simp)
      generalize b ++ pre = y at *
      go_upto_region 3 with fail
      go_region_law (refine step_append_any rfl (.tmp 16) (.tmp 22) 37 rfl B 5 (.int .u8 0) 1 1 Try.underlying37 info8 rfl (by omega) (by omega) (.slice A0 y.length c0) _ _ rfl (World.ownsRow.alloc (w := w'.drew) H.out.own _) _ 1 _ (bv [bb]) rfl rfl (RC_newL w'.drew (bv [bb]) 5) (bv_one _) (by omega) (by have := H.out.base; simp; omega) ?_; intro v1 w1 ho1 hg1 hat1; have hu : Upd (fun k => (Value.slice A0 y.length c0).ownBlock = some k) w' w1 := (((Upd.refl _ w').drew).alloc _).grown hg1 (fun k hk _ => hk); have hw1 := (hu.block p hlt (fun e => H.out.ne e)).trans H.out.at_; have k0 : w1.cell? ⟨p, 0, none⟩ = some (.slice A0 y.length c0) := (cell_of_row w1 p 0 _ _ _ hw1).trans rfl; have kf : w1.frozen? ⟨p, 0, none⟩ = false := frozen_of_row w1 p 0 _ _ hw1; obtain ⟨A1, c1, rfl, _⟩ := own_slice ho1)
      all_goals
        go_wp2_with fail
        go_step3
        have hne : (Value.slice A1 (y.length + 1) c1).ownBlock ≠ some p := by
          intro e
          rcases hat1 with h | h
          · exact H.out.ne (h ▸ e)
          · rw [h] at e; simp at e; omega
        have hb1 : Upd (WF p v) w (w1.setCell ⟨p, 0, none⟩ (.slice A1 (y.length + 1) c1)) := by
          refine (HB.out.trans hu (fun k hk h => ?_)).setCell (fun _ => .inl rfl) _
          rcases HVC.out k h with h | h
          · exact .inr h
          · omega
        have hvc1 : ∀ k, (Value.slice A1 (y.length + 1) c1).ownBlock = some k → v.ownBlock = some k ∨ w.heap.size ≤ k := by
          intro k hk
          rcases hat1 with h | h
          · exact HVC.out k (h ▸ hk)
          · rw [h] at hk
            have := HB.out.size
            simp at hk
            right
            omega
        refine ⟨rfl, ⟨i + 1, j, _, _, _, _, _, _, _, _, _, _, _, _, _, _, _, _, _, _, _, rfl, by have := HIJ.out; omega, ⟨?_, ?_, hne, H.out.base⟩, hb1, hvc1⟩, by simp [intOf]⟩
        · rw [setCell_at hw1]; rfl
        · rw [HS.out, ← HY.out, List.length_append, bv_append]
          exact own_setCell ho1 hne _

set_option maxHeartbeats 1000000 in
theorem writerFour2_any (w : World) (B p : Nat) (v : Value) (b : List UInt8) (h : WriterAt w B p v b) (n : Nat) (hn : n < 9223372036854775808) (hbl : b.length ≤ 100000000) :
    Calls Try.prog 56 #[.pointer (some ⟨p, 0, none⟩), .int .i64 (n : Int)] w fun e w' => ∃ v', e = .returned (.tuple #[]) ∧ WriterAt w' B p v' (b ++ be4n n) ∧ Upd (WF p v) w w' ∧ (∀ k, v'.ownBlock = some k → v.ownBlock = some k ∨ w.heap.size ≤ k) := by
  have H := Lib.hid h
  have hn0 : (0 : Int) ≤ (n : Int) := by omega
  have hn1 : (n : Int) < 9223372036854775808 := by omega
  have HN := Lib.hid hn
  clear h hn
  have hw : IntKind.u64.wrap (n : Int) = (n : Int) := by rw [IntKind.wrap_u64]; omega
  go_enter Try.func56, Try.ntmps56
  go_wp2_with fail
  refine (put2_any _ B p v b H.out n 4 (by have := HN.out; omega) (by omega) hbl).mono ?_
  rintro e w1 ⟨v1, rfl, hw1, hb1, hv1⟩
  rw [putPre_four] at hw1
  have HW := Lib.hid hw1
  have HB := Lib.hid hb1
  have HV := Lib.hid hv1
  clear hw1 hb1 hv1
  go_wp2_with fail
  go_end0
  exact ⟨_, rfl, HW.out, HB.out, HV.out⟩

set_option maxHeartbeats 1000000 in
theorem writerByte2_any (w : World) (B p : Nat) (v : Value) (b : List UInt8) (h : WriterAt w B p v b) (x : UInt8) (hbl : b.length ≤ 100000000) :
    Calls Try.prog 68 #[.pointer (some ⟨p, 0, none⟩), .int .i64 (un8 x)] w fun e w' => ∃ v', e = .returned (.tuple #[]) ∧ WriterAt w' B p v' (b ++ [x]) ∧ Upd (WF p v) w w' ∧ (∀ k, v'.ownBlock = some k → v.ownBlock = some k ∨ w.heap.size ≤ k) := by
  have H := Lib.hid h
  have hr := un8_range x
  have hw : IntKind.u64.wrap (un8 x) = un8 x := by rw [IntKind.wrap_u64]; omega
  have hp : putPre x.toNat 1 1 = [x] := by
    simp [putPre, byteAt, List.range, List.range.loop]
  have HP := Lib.hid hp
  clear h hr hp
  go_enter Try.func68, Try.ntmps68
  go_wp2_with fail
  refine (put2_any _ B p v b H.out x.toNat 1 (by have := x.toNat_lt; omega) (by omega) hbl).mono ?_
  rw [HP.out]
  rintro e w1 ⟨v1, rfl, hw1, hb1, hv1⟩
  have HW := Lib.hid hw1
  have HB := Lib.hid hb1
  have HV := Lib.hid hv1
  clear hw1 hb1 hv1
  go_wp2_with fail
  go_end0
  exact ⟨_, rfl, HW.out, HB.out, HV.out⟩

set_option maxHeartbeats 4000000 in
theorem writerText2_any (w : World) (B p : Nat) (v : Value) (b : List UInt8) (h : WriterAt w B p v b) (s : List UInt8) (hs : s.length ≤ 1000000) (hbl : b.length ≤ 90000000) :
    Calls Try.prog 67 #[.pointer (some ⟨p, 0, none⟩), .string (strB s)] w fun e w' => ∃ v', e = .returned (.tuple #[]) ∧ WriterAt w' B p v' (b ++ (be4n s.length ++ s)) ∧ Upd (WF p v) w w' ∧ (∀ k, v'.ownBlock = some k → v.ownBlock = some k ∨ w.heap.size ≤ k) := by
  obtain ⟨i8, hi8, hz8, hs8, hb8⟩ := info8i
  have HI8 := Lib.hid hi8
  have HZ8 := Lib.hid hz8
  have HS8 := Lib.hid hs8
  have HB8 := Lib.hid hb8
  clear hi8 hz8 hs8 hb8
  have H := Lib.hid h
  have hsz : (strB s).size = s.length := strB_size s
  have hcl : Lib.strCells (strB s) = bv s := by rw [strCells_bv, strB_toList]
  obtain ⟨sx, esx⟩ : ∃ sx, sx = strB s := ⟨_, rfl⟩
  rw [← esx] at hsz hcl ⊢
  have HSZ := Lib.hid hsz
  have HCL := Lib.hid hcl
  have HSL := Lib.hid hs
  have HBL := Lib.hid hbl
  clear h hsz hcl esx hs hbl
  go_enter Try.func67, Try.ntmps67
  go_wp2_with fail
  refine (writerFour2_any _ B p v b H.out sx.size (by have := HSZ.out; have := HSL.out; omega) (by have := HBL.out; omega)).mono ?_
  rw [HSZ.out]
  rintro e w1 ⟨v1, rfl, hw1, hb1, hv1⟩
  have k0 := hw1.c0
  have hl4 : (b ++ be4n s.length).length = b.length + 4 := by rw [List.length_append, be4n_length]
  have W1 := Lib.hid hw1
  have B1 := Lib.hid hb1
  have HL4 := Lib.hid hl4
  have HV1 := Lib.hid hv1
  clear hw1 hb1 hl4 hv1
  go_wp2_with (at_builtin; refine wpList_append_str rfl (.tmp 12) (.tmp 13) 37 9 rfl B 5 i8 Try.underlying37 Try.underlying9 HI8.out HZ8.out HS8.out HB8.out v1 _ _ rfl W1.out.own ?c0 sx rfl ?c1 ?c3 ?_)
  case c0 => have := HL4.out; omega
  case c1 => have := HL4.out; have := HSZ.out; have := HSL.out; have := HBL.out; omega
  case c3 => have := W1.out.base; have := W1.out.lt; omega
  intro v2 w2 ho hg hat
  have ho' : w2.ownsRow B 5 1 v2 (b ++ (be4n s.length ++ s)).length (bv (b ++ (be4n s.length ++ s))) := by
    rw [HCL.out, HSZ.out, ← bv_append, List.append_assoc] at ho
    rw [show (b ++ (be4n s.length ++ s)).length = b.length + (be4n s.length).length + s.length by simp only [List.length_append]; omega]
    exact ho
  have hw2 : w2.heap[p]? = some (.cells #[v1] 121 (0, 0)) := (hg.block p W1.out.lt (fun e => W1.out.ne e.symm)).trans W1.out.at_
  have hne : v2.ownBlock ≠ some p := by
    intro e
    rcases hat with h | h
    · exact W1.out.ne (h ▸ e)
    · rw [h] at e
      cases e
      exact absurd W1.out.lt (Nat.lt_irrefl _)
  have kp : w2.cell? ⟨p, 0, none⟩ = some v1 := (cell_of_row w2 p 0 _ _ _ hw2).trans rfl
  have kf : w2.frozen? ⟨p, 0, none⟩ = false := frozen_of_row w2 p 0 _ _ hw2
  have HO := Lib.hid ho'
  have HW2 := Lib.hid hw2
  have HNE := Lib.hid hne
  have HB2 := Lib.hid (B1.out.trans ((Upd.refl (fun k => v1.ownBlock = some k) w1).grown hg (fun k hk _ => hk)) (fun k hk h => by
    rcases HV1.out k h with h | h
    · exact .inr h
    · omega))
  have HV2 := Lib.hid (show ∀ k, v2.ownBlock = some k → v.ownBlock = some k ∨ w.heap.size ≤ k from fun k hk => by
    rcases hat with h | h
    · exact HV1.out k (h ▸ hk)
    · rw [h] at hk
      cases hk
      exact .inr B1.out.size)
  obtain ⟨A2, c2, rfl, _⟩ := own_slice ho'
  clear ho ho' hg hw2 hne hat
  go_wp2_with fail
  go_end0
  refine ⟨_, rfl, ⟨?_, own_setCell HO.out HNE.out _, HNE.out, W1.out.base⟩, HB2.out.setCell (fun _ => .inl rfl) _, HV2.out⟩
  rw [setCell_at HW2.out, List.length_append, List.length_append]
  rfl

set_option maxHeartbeats 4000000 in
theorem take2_any (w : World) (B p : Nat) (v : Value) (l : List UInt8) (a : Nat) (h : ReaderAt w B p v l a) (n : Nat) (h0 : 0 < n) (hn : a + n ≤ l.length) (hl : l.length ≤ 100000000) :
    Calls Try.prog 87 #[.pointer (some ⟨p, 0, none⟩), .int .i64 (n : Int)] w fun e w' => ∃ A c, e = .returned (.slice A n c) ∧ RB w' A ((l.drop a).take n) ∧ ReaderAt w' B p v l (a + n) ∧ Upd (fun k => k = p) w w' := by
  obtain ⟨g, c0, rfl, hB, hc⟩ := own_form h.own (by omega)
  have k0 := h.c0
  have k1 := h.c1
  have k2 := h.c2
  have f1 := h.f0 1
  have hlt := h.lt
  have H := Lib.hid h
  clear h
  have hne : ¬ (c0 = a) := by omega
  have hw1 : IntKind.i64.wrap ((l.length : Int) - (a : Int)) = (l.length : Int) - (a : Int) := by rw [IntKind.wrap_i64]; omega
  have hw2 : ¬ ((l.length : Int) - (a : Int) < (n : Int)) := by omega
  go_enter Try.func87, Try.ntmps87
  go_wp2_with fail
  go_region
  go_wp2_with fail
  go_region
  go_wp2_with fail
  go_ret
  have hb1 : Upd (fun k => k = p) w (w.setCell ⟨p, 1, none⟩ (.int .i64 ((a : Int) + (n : Int)))) := (Upd.refl (fun k => k = p) w).setCell (fun _ => rfl) _
  refine ⟨some ⟨g, a, none⟩, c0 - a, (show Ending.returned (.slice (some ⟨g, a, none⟩) (a + n - a) (c0 - a)) = _ by rw [Nat.add_sub_cancel_left]), ?_, ⟨?_, own_setCell H.out.own H.out.ne _, H.out.ne, H.out.base⟩, hb1.drew.drew⟩
  · intro _
    refine ⟨_, rfl, fun j hj => ?_⟩
    have hj' : a + j < l.length := by simp at hj; omega
    have h1 := own_byte (own_setCell (j := 1) H.out.own H.out.ne (.int .i64 ((a : Int) + (n : Int)))) (a + j) hj'
    rw [add_off]
    refine Eq.trans ?_ (h1.trans ?_)
    · rfl
    · simp
  · exact (setCell_at H.out.at_ _).trans rfl

section
set_option maxHeartbeats 4000000 in
theorem get2_any (w : World) (B p : Nat) (v : Value) (l : List UInt8) (a : Nat) (h : ReaderAt w B p v l a) (n : Nat) (h0 : 0 < n) (hn8 : n ≤ 7) (hn : a + n ≤ l.length) (hl : l.length ≤ 100000000) :
    Calls Try.prog 88 #[.pointer (some ⟨p, 0, none⟩), .int .i64 (n : Int)] w fun e w' => e = .returned (.int .u64 (numOf ((l.drop a).take n) : Nat)) ∧ ReaderAt w' B p v l (a + n) ∧ Upd (fun k => k = p) w w' := by
  go_enter Try.func88, Try.ntmps88
  have hx : ((l.drop a).take n).length = n := by simp; omega
  obtain ⟨x, ex⟩ : ∃ x, x = (l.drop a).take n := ⟨_, rfl⟩
  rw [← ex] at hx ⊢
  go_wp2_with fail
  refine wp_scope_loop 0 (fun a' w' => ∃ (i c y : Nat) (A : Option Addr) (u8 u9 u10 u11 u12 u13 u14 u15 u16 u17 u18 u19 u20 u21 u22 u23 u24 u25 : Value),
    a' = { tmps := #[.pointer (some ⟨p, 0, none⟩), .int .i64 (n : Int), undef, undef, .int .u64 0, .int .u64 (y : Int), .slice A n c, .int .i64 (i : Int), u8, u9, u10, u11, u12, u13, u14, u15, u16, u17, u18, u19, u20, u21, u22, u23, u24, u25], defers := [] } ∧
    y = numOf (x.take i) ∧ i ≤ n ∧ RB w' A x ∧ ReaderAt w' B p v l (a + n) ∧ Upd (fun k => k = p) w w') (fun a' _ => ((n : Int) - intOf (a'.tmps.getD 7 undef)).toNat) rfl ?pass ?first
  case first =>
    intro hrest
    go_wp2_with fail
    refine (take2_any w B p v l a h n h0 hn hl).mono ?_
    rintro e w1 ⟨A, c, rfl, hr, hw, hb⟩
    rw [← ex] at hr
    have H := Lib.hid hw
    have HR := Lib.hid hr
    have HB := Lib.hid hb
    clear h hw hr hb
    go_wp2_with fail
    go_step3
    rename_i hK
    refine hK _ _ (hrest _ _ ?_)
    exact ⟨0, _, 0, _, _, _, _, _, _, _, _, _, _, _, _, _, _, _, _, _, _, _, rfl, by simp [numOf], by omega, HR.out, H.out, HB.out⟩
  case pass =>
    rintro a' w' ⟨i, c, y, A, u8, u9, u10, u11, u12, u13, u14, u15, u16, u17, u18, u19, u20, u21, u22, u23, u24, u25, rfl, hy, hi, hr, hw, hb⟩
    have H := Lib.hid hw
    have HR := Lib.hid hr
    have HB := Lib.hid hb
    clear h hw hr hb ex
    by_cases hlt : i < n
    · obtain ⟨b, o, rfl, hc⟩ := HR.out.parts (by omega)
      have k1 := hc i (by omega)
      have hs : numOf (x.take (i + 1)) = numOf (x.take i) * 256 + x[i].toNat := by
        rw [List.take_succ_eq_append_getElem (by omega), numOf_snoc]
      have hb1 : numOf (x.take i) < 72057594037927936 := by
        have h1 := numOf_lt (x.take i)
        have h2 : 256 ^ (x.take i).length ≤ 256 ^ 7 := Nat.pow_le_pow_right (by omega) (by rw [List.length_take]; omega)
        have h3 : 256 ^ 7 = 72057594037927936 := by decide
        omega
      rw [← hy] at hs hb1
      have ho := or64_low y x[i] hb1
      rw [← hs, Int.natCast_mul] at ho
      have HS := Lib.hid hs
      obtain ⟨y1, ey1⟩ : ∃ y1, y1 = numOf (x.take (i + 1)) := ⟨_, rfl⟩
      rw [← ey1] at ho
      have EY := Lib.hid ey1
      have hwb := un8_range x[i]
      have how : IntKind.u64.wrap (un8 x[i]) = un8 x[i] := by rw [IntKind.wrap_u64]; omega
      generalize x[i] = bb at *
      have hw1 : IntKind.u64.wrap ((y : Int) * 256) = (y : Int) * 256 := by rw [IntKind.wrap_u64]; omega
      clear hc hs hy hb1 ey1 hwb
      have ho' : bits .or .u64 ((y : Int) * 256) (un8 bb) = (y1 : Int) := ho
      clear ho
      go_wp2_with fail
      go_step3
      refine ⟨rfl, ⟨i + 1, _, y1, _, _, _, _, _, _, _, _, _, _, _, _, _, _, _, _, _, _, _, rfl, EY.out, by omega, HR.out, H.out, HB.out⟩, by simp [intOf]; omega⟩
    · obtain rfl : i = n := by omega
      rw [show x.take i = x from List.take_of_length_le (by omega)] at hy
      have HYY := Lib.hid hy
      clear hy
      go_wp2_with fail
      simp only [Exit.jump]
      go_ret
      exact ⟨by rw [← HYY.out]; rfl, H.out, HB.out⟩
end

set_option maxHeartbeats 1000000 in
theorem readerFour2_any (w : World) (B p : Nat) (v : Value) (l : List UInt8) (a : Nat) (h : ReaderAt w B p v l a) (hn : a + 4 ≤ l.length) (hl : l.length ≤ 100000000) :
    Calls Try.prog 85 #[.pointer (some ⟨p, 0, none⟩)] w fun e w' => e = .returned (.int .i64 (four (l.drop a) : Nat)) ∧ ReaderAt w' B p v l (a + 4) ∧ Upd (fun k => k = p) w w' := by
  have hf := numOf_four (l.drop a) (by simp; omega)
  have hlt := four_lt (l.drop a)
  rw [← hf] at hlt ⊢
  obtain ⟨y, ey⟩ : ∃ y, y = numOf ((l.drop a).take 4) := ⟨_, rfl⟩
  rw [← ey] at hlt ⊢
  go_enter Try.func85, Try.ntmps85
  go_wp2_with fail
  refine (get2_any w B p v l a h 4 (by omega) (by omega) hn hl).mono ?_
  rw [← ey]
  rintro e w1 ⟨rfl, hw, hb⟩
  have H := Lib.hid hw
  have HB := Lib.hid hb
  clear hw hb h hf ey
  have hw : IntKind.i64.wrap (y : Int) = (y : Int) := by rw [IntKind.wrap_i64]; omega
  clear hlt
  go_wp2_with fail
  go_ret
  exact ⟨rfl, H.out, HB.out⟩


end Go.Proofs.Ythlbmjjodjepjaa
