/-
  The texts WireU, ChainWire, ReadU, ChainPrefix, ChainDecode of this proof in one (what is used of them): what each proves is said at its head. No conditions beyond those that each theorem says.
-/
import Derived.Lib.AppendStr
import Derived.Test.YtjakhemolecbnaaNA2
import Derived.Test.YtjakhemolecbnaaNB3

/-
  The walks of wire again, with the blocks that each call may turn.
-/
section
set_option linter.unusedVariables false
set_option linter.unusedSimpArgs false
namespace Go.Proofs.Ytjakhemolecbnaa
open Go.RowKit

section
variable {P : Program}
/-- 'append(v, s...)', v a row of one's own that is not empty: where the new row lies. -/
theorem run_append_str (w : World) (base : Nat) (t u ty e : TypeId) (i : TypeInfo) (ht : P.underlying t = some (.slice e)) (hu : P.underlying u = some .string) (hi : P.info? e = some i) (hz : i.zero = some (.int .u8 0))
    (hsize : i.size = 1) (hby : i.bytes = 1) (v : Value) (n : Nat) (xs : List Value) (hown : w.ownsRow base e 1 v n xs) (hn0 : 0 < n) (s : ByteArray) (hn : n + s.size ≤ 1000000000) (hbase : base ≤ w.heap.size) :
    ∃ v' w', (Builtin.append_ #[t, u] ty #[v, .string s]).run P w = .ok v' w' ∧ w'.ownsRow base e 1 v' (n + s.size) (xs ++ Lib.strCells s) ∧ w.grownBy w' v.ownBlock ∧ (v'.ownBlock = v.ownBlock ∨ v'.ownBlock = some w.heap.size) := by
  obtain ⟨v', w', hr, h2, h3, _⟩ := Lib.run_append_own_string (P := P) w base t u ty e i ht hu hi hz hsize hby v n xs hown s (by simp only [maxLen]; omega) (by omega) hbase
  refine ⟨v', w', hr, h2, h3, ?_⟩
  have hxl : xs.length = n := by simpa using hown.1
  rcases hown.2 with ⟨_, h0⟩ | ⟨g, cap, cur, rfl, hb, hg, hnc, hcm, hcs, htk⟩
  · omega
  · by_cases hroom : n + s.size ≤ cap
    · have hr2 := Lib.run_append_room_string (P := P) w t u ty e i ht hu hi hsize g n cap cur hg s hroom (by rw [hcs]; omega)
      rw [hr] at hr2
      simp only [Result.ok.injEq] at hr2
      left
      rw [hr2.1]
      rfl
    · have holds : ∀ j u, xs[j]? = some u → w.cell? ((⟨g, 0, none⟩ : Addr).add j) = some u := hown.cells (g := g) rfl
      have hr2 := Lib.run_append_grow_string (P := P) w t u ty e i (.int .u8 0) ht hu hi hz ⟨g, 0, none⟩ n cap xs (by rw [hsize, hxl, Nat.mul_one]) holds s (by omega) (by omega) (by rw [hby]; exact growslice_fits (by omega) (by omega))
      rw [hr] at hr2
      simp only [Result.ok.injEq] at hr2
      right
      rw [hr2.1]
      rfl
theorem wpList_append_str {ops : Array Oper} {rest : List Oper} {o : Oper} {a : Act} {w : World} {Q : Exit → Act → World → Prop} (hgd : o.guard = none) (sl x : Operand) (t u : TypeId)
    (ho : o.op = .call { callee := .builtin .append, args := #[sl, x], argTypes := #[t, u] })
    (base : Nat) (e : TypeId) (i : TypeInfo) (ht : P.underlying t = some (.slice e)) (hu : P.underlying u = some .string) (hi : P.info? e = some i) (hz : i.zero = some (.int .u8 0))
    (hsize : i.size = 1) (hby : i.bytes = 1) (v : Value) (n : Nat) (xs : List Value) (hs : a.eval sl = v) (hown : w.ownsRow base e 1 v n xs) (hn0 : 0 < n) (s : ByteArray) (hx : a.eval x = .string s) (hn : n + s.size ≤ 1000000000) (hbase : base ≤ w.heap.size)
    (h : ∀ v' w', w'.ownsRow base e 1 v' (n + s.size) (xs ++ Lib.strCells s) → w.grownBy w' v.ownBlock → (v'.ownBlock = v.ownBlock ∨ v'.ownBlock = some w.heap.size) → wpList P ops Q rest (a.put o.dst v') w') : wpList P ops Q (o :: rest) a w := by
  refine wpList_plain hgd fun K hK => ?_
  obtain ⟨v', w', hr, h2, h3, h4⟩ := run_append_str (P := P) w base t u o.type e i ht hu hi hz hsize hby v n xs hown hn0 s hn hbase
  unfold Oper.wp execOp
  simp only [ho, resolve, invoke, builtin, Sem.run_bind, Sem.run_pure, Result.andThen_ok, List.map_toArray, List.map_cons, List.map_nil, hs, hx, hr]
  exact hK _ _ (h v' w' h2 h3 h4)
end

section
end

end Go.Proofs.Ytjakhemolecbnaa
end

/-
  A chain as bytes: Encode.
-/
section
set_option linter.unusedVariables false
set_option linter.unusedSimpArgs false
namespace Go.Proofs.Ytjakhemolecbnaa
open Go.RowKit

/-- The bytes of a chain. -/
def encL (M : List (List UInt8 × List UInt8)) : List UInt8 := M.flatMap fun x => be4n x.1.length ++ x.1 ++ x.2
def encOf (M : List (List UInt8 × List UInt8)) : List UInt8 := be4n M.length ++ encL M
theorem encL_snoc (M : List (List UInt8 × List UInt8)) (x : List UInt8 × List UInt8) : encL (M ++ [x]) = encL M ++ (be4n x.1.length ++ x.1 ++ x.2) := by simp [encL]
theorem encL_bound : ∀ (M : List (List UInt8 × List UInt8)), (∀ x ∈ M, x.2.length = 32) → (∀ x ∈ M, x.1.length ≤ 4000) → (encL M).length ≤ 4036 * M.length
  | [], _, _ => by simp [encL]
  | x :: M, h1, h2 => by
    have h := encL_bound M (fun y hy => h1 y (by simp [hy])) (fun y hy => h2 y (by simp [hy]))
    have e1 := h1 x (by simp)
    have e2 := h2 x (by simp)
    rw [encL, List.flatMap_cons, List.length_append, List.length_append, List.length_append, be4n_length, e1, List.length_cons]
    rw [encL] at h
    omega

end Go.Proofs.Ytjakhemolecbnaa
end

/-
  The walks of a reader, where all is there.
-/
section
set_option linter.unusedVariables false
set_option linter.unusedSimpArgs false
namespace Go.Proofs.Ytjakhemolecbnaa
open Go.RowKit

set_option maxHeartbeats 4000000 in
theorem take3_any (w : World) (B p : Nat) (v : Value) (l : List UInt8) (a : Nat) (h : ReaderAt w B p v l a) (n : Nat) (h0 : a < l.length) (hn : a + n ≤ l.length) (hl : l.length ≤ 100000000) :
    Calls Try.prog 71 #[.pointer (some ⟨p, 0, none⟩), .int .i64 (n : Int)] w fun e w' => ∃ A c, e = .returned (.slice A n c) ∧ RB w' A ((l.drop a).take n) ∧ ReaderAt w' B p v l (a + n) ∧ Upd (fun k => k = p) w w' := by
  obtain ⟨g, c0, rfl, hB, hc⟩ := own_form h.own (by omega)
  have k0 := h.c0
  have k1 := h.c1
  have k2 := h.c2
  have f1 := h.f0 1
  have hlt := h.lt
  have H := Lib.hid h
  clear h
  have hne : ¬ (c0 = a) := by omega
  have hw1 : IntKind.i64.wrap ((l.length : Int) - (a : Int)) = (l.length : Int) - (a : Int) := by rw [IntKind.wrap_i64]; omega
  have hw2 : ¬ ((l.length : Int) - (a : Int) < (n : Int)) := by omega
  go_enter Try.func71, Try.ntmps71
  go_wp2_with fail
  go_region
  go_wp2_with fail
  go_region
  go_wp2_with fail
  go_ret
  have hb1 : Upd (fun k => k = p) w (w.setCell ⟨p, 1, none⟩ (.int .i64 ((a : Int) + (n : Int)))) := (Upd.refl (fun k => k = p) w).setCell (fun _ => rfl) _
  refine ⟨some ⟨g, a, none⟩, c0 - a, (show Ending.returned (.slice (some ⟨g, a, none⟩) (a + n - a) (c0 - a)) = _ by rw [Nat.add_sub_cancel_left]), ?_, ⟨?_, own_setCell H.out.own H.out.ne _, H.out.ne, H.out.base⟩, hb1.drew.drew⟩
  · intro _
    refine ⟨_, rfl, fun j hj => ?_⟩
    have hj' : a + j < l.length := by simp at hj; omega
    have h1 := own_byte (own_setCell (j := 1) H.out.own H.out.ne (.int .i64 ((a : Int) + (n : Int)))) (a + j) hj'
    rw [add_off]
    refine Eq.trans ?_ (h1.trans ?_)
    · rfl
    · simp
  · exact (setCell_at H.out.at_ _).trans rfl


set_option maxHeartbeats 1000000 in
theorem readerLeft2_any (w : World) (B p : Nat) (v : Value) (l : List UInt8) (a : Nat) (h : ReaderAt w B p v l a) (hn : a ≤ l.length) (hl : l.length ≤ 100000000) :
    Calls Try.prog 67 #[.pointer (some ⟨p, 0, none⟩)] w fun e w' => e = .returned (.int .i64 ((l.length - a : Nat) : Int)) ∧ ReaderAt w' B p v l a ∧ Upd (fun k => k = p) w w' := by
  obtain ⟨A, c, rfl, _⟩ := own_slice h.own
  have k0 := h.c0
  have k1 := h.c1
  have k2 := h.c2
  have H := Lib.hid h
  clear h
  have hw1 : IntKind.i64.wrap ((l.length : Int) - (a : Int)) = ((l.length - a : Nat) : Int) := by rw [IntKind.wrap_i64]; omega
  have hsub : (l.length : Int) - (a : Int) = ((l.length - a : Nat) : Int) := by omega
  have HSUB := Lib.hid hsub
  clear hsub
  go_enter Try.func67, Try.ntmps67
  go_wp2_with fail
  go_region
  all_goals
    go_wp2_with fail
    go_ret
    refine ⟨?_, H.out.drew, (Upd.refl _ _).drew⟩
    first | rfl | rw [HSUB.out]

set_option maxHeartbeats 1000000 in
theorem readerEnd2_any (w : World) (B p : Nat) (v : Value) (l : List UInt8) (a : Nat) (h : ReaderAt w B p v l a) (hn : a = l.length) (hl : l.length ≤ 100000000) :
    Calls Try.prog 40 #[.pointer (some ⟨p, 0, none⟩)] w fun e w' => e = .returned (.tuple #[.int .i64 0, .int .i64 0]) ∧ ReaderAt w' B p v l a ∧ Upd (fun k => k = p) w w' := by
  obtain ⟨A, c, rfl, _⟩ := own_slice h.own
  have k0 := h.c0
  have k1 := h.c1
  have k2 := h.c2
  have H := Lib.hid h
  clear h
  have hlt : ¬ ((a : Int) < (l.length : Int)) := by omega
  go_enter Try.func40, Try.ntmps40
  go_wp2_with fail
  go_region
  all_goals
    go_wp2_with fail
    go_ret2
    exact ⟨rfl, H.out.drew, (Upd.refl _ _).drew⟩

end Go.Proofs.Ytjakhemolecbnaa
end

/-
  The walk of Prefix, of the chain.
-/
section
set_option linter.unusedVariables false
set_option linter.unusedSimpArgs false
namespace Go.Proofs.Ytjakhemolecbnaa
open Go.RowKit

set_option maxRecDepth 100000 in
set_option maxHeartbeats 8000000 in
theorem prefix_any (A1 A2 : Option Addr) (n1 c1 n2 c2 : Nat) (M1 M2 : List (List UInt8 × List UInt8)) (w : World) (hl1 : M1.length = n1) (hl2 : M2.length = n2) (hn1 : n1 ≤ 100000) (hn2 : n2 ≤ 100000)
    (hh1 : ∀ x ∈ M1, x.2.length = 32) (hh2 : ∀ x ∈ M2, x.2.length = 32) (ht1 : ∀ x ∈ M1, x.1.length ≤ 1000000) (ht2 : ∀ x ∈ M2, x.1.length ≤ 1000000) (hr1 : RC w A1 (lv M1)) (hr2 : RC w A2 (lv M2)) :
    Calls Try.prog 60 #[.slice A1 n1 c1, .slice A2 n2 c2] w fun e w' => e = .returned (.bool (decide (M1.take (min n1 n2) = M2.take (min n1 n2)))) ∧ Below w.heap.size w w' := by
  subst hl1
  subst hl2
  obtain ⟨m, em⟩ : ∃ m, m = min M1.length M2.length := ⟨_, rfl⟩
  rw [← em]
  obtain ⟨R, eR⟩ : ∃ R, R = decide (M1.take m = M2.take m) := ⟨_, rfl⟩
  rw [← eR]
  have hm1 : m ≤ M1.length := by omega
  have hm2 : m ≤ M2.length := by omega
  have ER := Lib.hid eR
  have H1 := Lib.hid hr1
  have H2 := Lib.hid hr2
  have HH1 := Lib.hid hh1
  have HH2 := Lib.hid hh2
  have HT1 := Lib.hid ht1
  have HT2 := Lib.hid ht2
  have HM1 := Lib.hid hm1
  have HM2 := Lib.hid hm2
  have EM := Lib.hid em
  clear em eR hr1 hr2 hh1 hh2 ht1 ht2 hm1 hm2
  go_enter Try.func60, Try.ntmps60
  go_upto_block 0 with fail
  rw [show min (M1.length : Int) (M2.length : Int) = (m : Int) by have := EM.out; omega]
  go_wp2_with fail
  go_loopg [11] m (fun k s11 wr => ∃ i : Nat, i ≤ m ∧ k = m - i ∧ s11 = .int .i64 (i : Int) ∧ M1.take i = M2.take i ∧ Below w.heap.size w wr)
  case atStart => exact ⟨0, Nat.zero_le _, by omega, rfl, rfl, Below.refl _ _⟩
  case round =>
    obtain ⟨i, hi, hk, rfl, heq, hb⟩ := hrel
    have HK := Lib.hid hk
    have HB := Lib.hid hb
    have HEQ := Lib.hid heq
    clear hk hb heq
    by_cases hlt : i < m
    · have hlt1 : i < M1.length := by have := HM1.out; omega
      have hlt2 : i < M2.length := by have := HM2.out; omega
      obtain ⟨b1, o1, rfl, e1⟩ := H1.out.parts (by rw [lv_length M1 HH1.out]; omega)
      obtain ⟨b2, o2, rfl, e2⟩ := H2.out.parts (by rw [lv_length M2 HH2.out]; omega)
      have RG1 := Lib.hid (lk_range HH1.out (fun j u hj => cell_below HB.out.drew (e1 j u hj)) i hlt1)
      have RG2 := Lib.hid (lk_range HH2.out (fun j u hj => cell_below HB.out.drew (e2 j u hj)) i hlt2)
      have hx1 := HH1.out _ (List.getElem_mem hlt1)
      have hx2 := HH2.out _ (List.getElem_mem hlt2)
      have HQ := Lib.hid (fun W => eqLk M1[i] M2[i] (HT1.out _ (List.getElem_mem hlt1)) (HT2.out _ (List.getElem_mem hlt2)) hx1 hx2 W)
      have t1 := List.take_succ_eq_append_getElem hlt1
      have t2 := List.take_succ_eq_append_getElem hlt2
      obtain ⟨q, eq⟩ : ∃ q, q = decide (M1[i] = M2[i]) := ⟨_, rfl⟩
      rw [← eq] at HQ
      have HE1 := Lib.hid (show q = true → M1.take (i + 1) = M2.take (i + 1) by
        intro h
        rw [t1, t2, HEQ.out, of_decide_eq_true (eq.symm.trans h)])
      have HE2 := Lib.hid (show q = false → R = false by
        intro h
        rw [ER.out, decide_eq_false_iff_not]
        intro h2
        have h3 := of_decide_eq_false (eq.symm.trans h)
        apply h3
        have h4 := congrArg (fun l => l[i]?) h2
        simp only [List.getElem?_take, hlt, if_true, List.getElem?_eq_getElem hlt1, List.getElem?_eq_getElem hlt2, Option.some.injEq] at h4
        exact h4)
      have il1 : (Try.prog.info? 92).map (·.size) = some (lk M1[i]).length := by rw [lk_length _ hx1]; exact info33
      have il2 : (Try.prog.info? 92).map (·.size) = some (lk M2[i]).length := by rw [lk_length _ hx2]; exact info33
      obtain ⟨x1, ex1⟩ : ∃ x1, x1 = lk M1[i] := ⟨_, rfl⟩
      obtain ⟨x2, ex2⟩ : ∃ x2, x2 = lk M2[i] := ⟨_, rfl⟩
      rw [← ex1] at RG1 il1 HQ
      rw [← ex2] at RG2 il2 HQ
      have IL1 := Lib.hid il1
      have IL2 := Lib.hid il2
      have hi0 : (0 : Int) ≤ (i : Int) := by omega
      have hi1 : (i : Int) < (M1.length : Int) := by omega
      have hi2 : (i : Int) < (M2.length : Int) := by omega
      have HLT := Lib.hid hlt
      clear e1 e2 hx1 hx2 t1 t2 eq il1 il2 ex1 ex2 hlt hi hlt1 hlt2
      go_upto_region 4 with fail
      refine region_by (fun W => W = wr.drew) [(fun v _ => v = .slice (some ⟨b1, o1, none⟩) M1.length c1), (fun v _ => v = .int .i64 (i : Int)), (fun v _ => v = .pointer (some ⟨b1, o1 + i * 33, none⟩)), fun v _ => v = .agg x1.toArray, (fun v _ => v = .slice (some ⟨b2, o2, none⟩) M2.length c2), (fun v _ => v = .int .i64 (i : Int)), (fun v _ => v = .pointer (some ⟨b2, o2 + i * 33, none⟩)), fun v _ => v = .agg x2.toArray, fun v _ => v = .bool (!q)] (by kernel_rfl) (by kernel_rfl) (by kernel_rfl) rfl (rfl) ?ok4 ?fin4
      case ok4 =>
        refine ⟨?_, ?_, ?_, ?_, ?_, ?_, ?_, ?_, ?_, trivial⟩
        · intro a' w' K hI hd hq hK
          have e0 : a'.eval (.tmp 0) = .slice (some ⟨b1, o1, none⟩) M1.length c1 := (hq 0 (by kernel_rfl)).trans rfl
          clear hd hq
          refine op_value (wanted_free _ _ (by rfl)) (v := .slice (some ⟨b1, o1, none⟩) M1.length c1) (w'' := w') ?_ (hK _ _ hI (fun _ _ h => h) rfl)
          clear hK
          simp only [execOp, e0]
          have f0 : a'.tmps[0]?.getD undef = .slice (some ⟨b1, o1, none⟩) M1.length c1 := (Array.getD_eq_getD_getElem? ..).symm.trans e0
          clear e0
          first | rfl | (go_simp <;> exact IntWalk.i64_in _ (by omega))
        · intro a' w' K hI hd hq hK
          have e5 : a'.eval (.tmp 5) = .int .i64 (i : Int) := (hq 5 (by kernel_rfl)).trans rfl
          clear hd hq
          refine op_value (wanted_free _ _ (by rfl)) (v := .int .i64 (i : Int)) (w'' := w') ?_ (hK _ _ hI (fun _ _ h => h) rfl)
          clear hK
          simp only [execOp, e5]
          have f5 : a'.tmps[5]?.getD undef = .int .i64 (i : Int) := (Array.getD_eq_getD_getElem? ..).symm.trans e5
          clear e5
          first | rfl | (go_simp <;> exact IntWalk.i64_in _ (by omega))
        · intro a' w' K hI hd hq hK
          have e14 : a'.eval (.tmp 14) = .slice (some ⟨b1, o1, none⟩) M1.length c1 := (hd 0 14 (by kernel_rfl))
          have e15 : a'.eval (.tmp 15) = .int .i64 (i : Int) := (hd 1 15 (by kernel_rfl))
          clear hd hq
          refine op_value (wanted_free _ _ (by rfl)) (v := .pointer (some ⟨b1, o1 + i * 33, none⟩)) (w'' := w') ?_ (hK _ _ hI (fun _ _ h => h) rfl)
          clear hK
          simp only [execOp, e14, e15]
          have f14 : a'.tmps[14]?.getD undef = .slice (some ⟨b1, o1, none⟩) M1.length c1 := (Array.getD_eq_getD_getElem? ..).symm.trans e14
          have f15 : a'.tmps[15]?.getD undef = .int .i64 (i : Int) := (Array.getD_eq_getD_getElem? ..).symm.trans e15
          clear e14 e15
          first | rfl | (go_simp <;> exact IntWalk.i64_in _ (by omega))
        · intro a' w' K hI hd hq hK
          have e16 : a'.eval (.tmp 16) = .pointer (some ⟨b1, o1 + i * 33, none⟩) := (hd 2 16 (by kernel_rfl))
          clear hd hq
          subst hI
          refine op_value (wanted_free _ _ (by rfl)) (v := .agg x1.toArray) (w'' := wr.drew) ?_ (hK _ _ rfl (fun _ _ h => h) rfl)
          simp only [execOp, e16, Instr.loadAt, Instr.sureAddr, Sem.run_bind, Sem.run_pure, Result.andThen_ok, run_loadVar_mid wr.drew b1 (o1 + i * 33) 92 x1 _ RG1.out Try.underlying92 rfl IL1.out]
        · intro a' w' K hI hd hq hK
          have e1 : a'.eval (.tmp 1) = .slice (some ⟨b2, o2, none⟩) M2.length c2 := (hq 1 (by kernel_rfl)).trans rfl
          clear hd hq
          refine op_value (wanted_free _ _ (by rfl)) (v := .slice (some ⟨b2, o2, none⟩) M2.length c2) (w'' := w') ?_ (hK _ _ hI (fun _ _ h => h) rfl)
          clear hK
          simp only [execOp, e1]
          have f1 : a'.tmps[1]?.getD undef = .slice (some ⟨b2, o2, none⟩) M2.length c2 := (Array.getD_eq_getD_getElem? ..).symm.trans e1
          clear e1
          first | rfl | (go_simp <;> exact IntWalk.i64_in _ (by omega))
        · intro a' w' K hI hd hq hK
          have e5 : a'.eval (.tmp 5) = .int .i64 (i : Int) := (hq 5 (by kernel_rfl)).trans rfl
          clear hd hq
          refine op_value (wanted_free _ _ (by rfl)) (v := .int .i64 (i : Int)) (w'' := w') ?_ (hK _ _ hI (fun _ _ h => h) rfl)
          clear hK
          simp only [execOp, e5]
          have f5 : a'.tmps[5]?.getD undef = .int .i64 (i : Int) := (Array.getD_eq_getD_getElem? ..).symm.trans e5
          clear e5
          first | rfl | (go_simp <;> exact IntWalk.i64_in _ (by omega))
        · intro a' w' K hI hd hq hK
          have e18 : a'.eval (.tmp 18) = .slice (some ⟨b2, o2, none⟩) M2.length c2 := (hd 4 18 (by kernel_rfl))
          have e19 : a'.eval (.tmp 19) = .int .i64 (i : Int) := (hd 5 19 (by kernel_rfl))
          clear hd hq
          refine op_value (wanted_free _ _ (by rfl)) (v := .pointer (some ⟨b2, o2 + i * 33, none⟩)) (w'' := w') ?_ (hK _ _ hI (fun _ _ h => h) rfl)
          clear hK
          simp only [execOp, e18, e19]
          have f18 : a'.tmps[18]?.getD undef = .slice (some ⟨b2, o2, none⟩) M2.length c2 := (Array.getD_eq_getD_getElem? ..).symm.trans e18
          have f19 : a'.tmps[19]?.getD undef = .int .i64 (i : Int) := (Array.getD_eq_getD_getElem? ..).symm.trans e19
          clear e18 e19
          first | rfl | (go_simp <;> exact IntWalk.i64_in _ (by omega))
        · intro a' w' K hI hd hq hK
          have e20 : a'.eval (.tmp 20) = .pointer (some ⟨b2, o2 + i * 33, none⟩) := (hd 6 20 (by kernel_rfl))
          clear hd hq
          subst hI
          refine op_value (wanted_free _ _ (by rfl)) (v := .agg x2.toArray) (w'' := wr.drew) ?_ (hK _ _ rfl (fun _ _ h => h) rfl)
          simp only [execOp, e20, Instr.loadAt, Instr.sureAddr, Sem.run_bind, Sem.run_pure, Result.andThen_ok, run_loadVar_mid wr.drew b2 (o2 + i * 33) 92 x2 _ RG2.out Try.underlying92 rfl IL2.out]
        · intro a' w' K hI hd hq hK
          have e17 : a'.eval (.tmp 17) = .agg x1.toArray := (hd 3 17 (by kernel_rfl))
          have e21 : a'.eval (.tmp 21) = .agg x2.toArray := (hd 7 21 (by kernel_rfl))
          clear hd hq
          refine op_value (wanted_free _ _ (by rfl)) (v := .bool (!q)) (w'' := w') ?_ (hK _ _ hI (fun _ _ h => h) rfl)
          simp only [execOp, e17, e21, Sem.run_bind, run_eqGuard_agg w' _ 92 _ _ _ _ (show Try.prog.eqGuardType Try.prog.depth 92 = false by kernel_rfl), run_neq_struct, HQ.out w', Result.andThen_ok, Sem.run_pure]
      case fin4 =>
        rintro w' hI _ rfl _ rfl _ rfl _ rfl _ rfl _ rfl _ rfl _ rfl _ rfl
        simp only [Act.put, List.setIfInBounds_toArray, List.set_cons_zero, List.set_cons_succ, FinGoal]
        cases q with
        | true =>
          go_wp2_with fail
          go_roundg (m - (i + 1))
          case measure => have := HK.out; have := HLT.out; omega
          case rel => exact ⟨i + 1, HLT.out, rfl, by go_num, HE1.out (by first | trivial | rfl), HB.out.drew⟩
        | false =>
          go_wp2_with fail
          go_ret
          rw [HE2.out (by first | trivial | rfl)]
          exact ⟨rfl, HB.out.drew⟩
    · obtain rfl : i = m := by omega
      have HRT := Lib.hid (show R = true by rw [ER.out, decide_eq_true_iff]; exact HEQ.out)
      clear hlt hi
      go_wp2_with fail
      go_ret
      rw [HRT.out]
      exact ⟨rfl, HB.out⟩

end Go.Proofs.Ytjakhemolecbnaa
end

/-
  The walk of Decode, of the chain, on the bytes of a chain that was made.
-/
section
set_option linter.unusedVariables false
set_option linter.unusedSimpArgs false
namespace Go.Proofs.Ytjakhemolecbnaa
open Go.RowKit

theorem encL_split (M : List (List UInt8 × List UInt8)) (i : Nat) : encL M = encL (M.take i) ++ encL (M.drop i) := by
  rw [encL, encL, encL, ← List.flatMap_append, List.take_append_drop]
/-- Where link i begins. -/
def posOf (M : List (List UInt8 × List UInt8)) (i : Nat) : Nat := 4 + (encL (M.take i)).length
theorem posOf_zero (M : List (List UInt8 × List UInt8)) : posOf M 0 = 4 := by simp [posOf, encL]
theorem posOf_all (M : List (List UInt8 × List UInt8)) : posOf M M.length = (encOf M).length := by simp [posOf, encOf, be4n_length]
theorem posOf_succ (M : List (List UInt8 × List UInt8)) (i : Nat) (h : i < M.length) (h2 : (M[i]).2.length = 32) : posOf M (i + 1) = posOf M i + 4 + (M[i]).1.length + 32 := by
  unfold posOf
  rw [List.take_succ_eq_append_getElem h, encL_snoc]
  simp only [List.length_append, be4n_length, h2]
  omega
theorem enc_drop (M : List (List UInt8 × List UInt8)) (i : Nat) : (encOf M).drop (posOf M i) = encL (M.drop i) := by
  unfold encOf posOf
  rw [encL_split M i, ← List.append_assoc, List.drop_append_of_le_length (by simp only [List.length_append, be4n_length]; omega), List.drop_of_length_le (by simp only [List.length_append, be4n_length]; omega), List.nil_append]
theorem enc_at (M : List (List UInt8 × List UInt8)) (i : Nat) (h : i < M.length) : ∃ t, (encOf M).drop (posOf M i) = be4n (M[i]).1.length ++ ((M[i]).1 ++ ((M[i]).2 ++ t)) := by
  rw [enc_drop, List.drop_eq_getElem_cons h, encL, List.flatMap_cons]
  refine ⟨(M.drop (i + 1)).flatMap fun x => be4n x.1.length ++ x.1 ++ x.2, ?_⟩
  simp only [List.append_assoc]
theorem lk_set (t h : List UInt8) (j : Nat) (x : UInt8) : (lk (t, h)).set (1 + j) (.int .u8 (un8 x)) = lk (t, h.set j x) := by
  unfold lk
  rw [Nat.add_comm 1 j, List.set_cons_succ, bv_set]
theorem lk_frozen {w : World} {z : Nat} {cs : Array Value} (h : w.heap[z]? = some (.cells cs 92)) (j : Nat) : w.frozen? ⟨z, j, none⟩ = false := by
  unfold World.frozen?
  simp [h]
theorem tail67 (t : List Value) (h : t.length = 67) : ∃ u : Nat → Value, t = [u 9, u 10, u 11, u 12, u 13, u 14, u 15, u 16, u 17, u 18, u 19, u 20, u 21, u 22, u 23, u 24, u 25, u 26, u 27, u 28, u 29, u 30, u 31, u 32, u 33, u 34, u 35, u 36, u 37, u 38, u 39, u 40, u 41, u 42, u 43, u 44, u 45, u 46, u 47, u 48, u 49, u 50, u 51, u 52, u 53, u 54, u 55, u 56, u 57, u 58, u 59, u 60, u 61, u 62, u 63, u 64, u 65, u 66, u 67, u 68, u 69, u 70, u 71, u 72, u 73, u 74, u 75] := by
  refine ⟨fun k => t.getD (k - 9) undef, ?_⟩
  have e : t = (List.range 67).map fun k => t.getD k undef := by
    apply List.ext_getElem
    · simp [h]
    · intro i h1 h2
      simp [List.getD_eq_getElem?_getD, List.getElem?_eq_getElem h1]
  exact e
theorem infoI : (Try.prog.info? 3).map (fun i => (i.zero, i.size, i.bytes)) = some (some (.int .i64 0), 1, 8) := by kernel_rfl

end Go.Proofs.Ytjakhemolecbnaa
end
