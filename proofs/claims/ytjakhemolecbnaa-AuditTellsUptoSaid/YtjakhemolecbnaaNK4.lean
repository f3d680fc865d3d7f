/-
  The texts RefBreaks3 of this proof in one (what is used of them): what each proves is said at its head. No conditions beyond those that each theorem says.
-/
import Derived.Test.YtjakhemolecbnaaNK3
import Derived.Test.YtjakhemolecbnaaND2

/-
  The walk of the reference's breaks, rule 3.
-/
section
set_option linter.unusedVariables false
set_option linter.unusedSimpArgs false
namespace Go.Proofs.Ytjakhemolecbnaa
open Go.RowKit

/-- Where a claim ahead parts from this one. -/
def mis (g : Nat → Int) (cs : List Rc) (i : Nat) (c : Rc) (k : Nat) : Option Nat := match cs[k]? with
  | some d => if g k = g i ∧ ¬ d.M.take (min d.M.length c.M.length) = c.M.take (min d.M.length c.M.length) then some (unlikeS d.M c.M) else none
  | none => none
def best3 (F : Nat → Option Nat) (k : Nat) (x : Int) : Prop := (x = -1 ∧ ∀ j, j < k → F j = none) ∨ ∃ q : Nat, x = (q : Int) ∧ (∃ j, j < k ∧ F j = some q) ∧ ∀ j, j < k → ∀ p, F j = some p → q ≤ p
theorem best3_none {F : Nat → Option Nat} {k : Nat} {x : Int} (h : best3 F k x) (hk : F k = none) : best3 F (k + 1) x := by
  rcases h with ⟨hx, h⟩ | ⟨q, hx, ⟨j, hj, hq⟩, h⟩
  · refine .inl ⟨hx, fun j hj => ?_⟩
    by_cases e : j = k
    · rw [e]; exact hk
    · exact h j (by omega)
  · refine .inr ⟨q, hx, ⟨j, by omega, hq⟩, fun j hj p hp => ?_⟩
    by_cases e : j = k
    · rw [e, hk] at hp; cases hp
    · exact h j (by omega) p hp
theorem best3_low {F : Nat → Option Nat} {k p : Nat} {x : Int} (h : best3 F k x) (hk : F k = some p) (hx : x < 0 ∨ (p : Int) < x) : best3 F (k + 1) (p : Int) := by
  refine .inr ⟨p, rfl, ⟨k, by omega, hk⟩, fun j hj p' hp => ?_⟩
  by_cases e : j = k
  · rw [e, hk] at hp; cases hp; exact Nat.le_refl _
  · rcases h with ⟨_, h⟩ | ⟨q, hq, _, h⟩
    · rw [h j (by omega)] at hp; cases hp
    · have := h j (by omega) p' hp
      omega
theorem best3_high {F : Nat → Option Nat} {k p : Nat} {x : Int} (h : best3 F k x) (hk : F k = some p) (hx : ¬ (x < 0 ∨ (p : Int) < x)) : best3 F (k + 1) x := by
  rcases h with ⟨h, _⟩ | ⟨q, hq, ⟨j, hj, hF⟩, h⟩
  · omega
  · refine .inr ⟨q, hq, ⟨j, by omega, hF⟩, fun j hj p' hp => ?_⟩
    by_cases e : j = k
    · rw [e, hk] at hp; cases hp; omega
    · exact h j (by omega) p' hp
theorem best3_lo {F : Nat → Option Nat} {k : Nat} {x : Int} (h : best3 F k x) : -1 ≤ x := by
  rcases h with ⟨h, _⟩ | ⟨q, hq, _⟩ <;> omega

set_option maxRecDepth 100000 in
set_option maxHeartbeats 8000000 in
theorem breaks3_any (g : Nat → Int) (bl ol ln lc : Nat) (A : Option Addr) (n ca : Nat) (cs : List Rc) (i : Nat) (c : Rc) (w : World) (hl : cs.length = n) (hln : cs.length ≤ ln) (hG : ∀ k, k < cs.length → w.cell? ⟨bl, ol + k * 2, none⟩ = some (.int .i64 (g k))) (hr : RcsAt w A cs) (hc : cs[i]? = some c) :
    Calls Try.prog 35 #[.slice (some ⟨bl, ol, none⟩) ln lc, .slice A n ca, .int .i64 3, .int .i64 (i : Int)] w fun e w' => ∃ x : Int, e = .returned (.int .i64 x) ∧ best3 (mis g cs i c) i x ∧ Below w.heap.size w w' := by
  subst hl
  have hi := (List.getElem?_eq_some_iff.1 hc).1
  have hn := hr.n
  obtain ⟨b, o, rfl, _⟩ := hr.r.part (by rw [rcc_length]; omega)
  have hcA := hr.x c (List.mem_of_getElem? hc)
  have hlM := hcA.lM
  have KC := Lib.hid (fun W (hW : Below w.heap.size w W) => ((hr.below hW).claim hc).1)
  have KG := Lib.hid (fun (k : Nat) (hk : k < cs.length) W (hW : Below w.heap.size w W) => cell_below hW (hG k hk))
  have HR := Lib.hid hr
  have HC := Lib.hid hc
  have HCA := Lib.hid hcA
  have HI := Lib.hid hi
  have hi0 : (0 : Int) ≤ (i : Int) := by omega
  have hi1 : (i : Int) < (cs.length : Int) := by omega
  have hil : (i : Int) < (ln : Int) := by omega
  have hl1 : (c.M.length : Int) ≤ 5000 := by omega
  have hn1 : (cs.length : Int) ≤ 1000 := by omega
  have hnl : (cs.length : Int) ≤ (ln : Int) := by omega
  clear hr hc hG hln hcA hlM hi hn
  go_enter Try.func35, Try.ntmps35
  go_upto_block 0 with fail
  go_wp2_with fail
  go_loopg [9, 10] i (fun k s9 s10 wr => ∃ (k0 : Nat) (x : Int), k0 ≤ i ∧ k = i - k0 ∧ s9 = .int .i64 x ∧ s10 = .int .i64 (k0 : Int) ∧ best3 (mis g cs i c) k0 x ∧ Below w.heap.size w wr)
  case atStart => exact ⟨0, -1, by omega, rfl, rfl, rfl, .inl ⟨rfl, fun j hj => absurd hj (Nat.not_lt_zero _)⟩, Below.refl _ _⟩
  case round =>
    obtain ⟨k0, x, hk0, hk, rfl, rfl, hbe, hb⟩ := hrel
    have HK := Lib.hid hk
    have HBE := Lib.hid hbe
    have HB := Lib.hid hb
    clear hk hbe hb
    by_cases hlt : k0 < i
    · have hkn : k0 < cs.length := by have := HI.out; omega
      obtain ⟨d, hd⟩ : ∃ d, cs[k0]? = some d := ⟨_, List.getElem?_eq_getElem hkn⟩
      have g1 := KG.out k0 hkn wr HB.out
      have g2 := KG.out i HI.out wr HB.out
      have KD := Lib.hid (fun W (hW : Below w.heap.size w W) => ((HR.out.below hW).claim hd).1)
      have hdA := HR.out.x d (List.mem_of_getElem? hd)
      have hdl := hdA.lM
      have HDA := Lib.hid hdA
      have HMIS := Lib.hid (show mis g cs i c k0 = if g k0 = g i ∧ ¬ d.M.take (min d.M.length c.M.length) = c.M.take (min d.M.length c.M.length) then some (unlikeS d.M c.M) else none by unfold mis; rw [hd])
      have hkk0 : (0 : Int) ≤ (k0 : Int) := by omega
      have hkk1 : (k0 : Int) < (i : Int) := by omega
      have hkk2 : (k0 : Int) < (cs.length : Int) := by omega
      have hkk3 : (k0 : Int) < (ln : Int) := by omega
      have hdl1 : (d.M.length : Int) ≤ 5000 := by omega
      obtain ⟨ga, hga⟩ : ∃ ga, ga = g k0 := ⟨_, rfl⟩
      obtain ⟨gi, hgi⟩ : ∃ gi, gi = g i := ⟨_, rfl⟩
      rw [← hga] at g1 HMIS
      rw [← hgi] at g2 HMIS
      have HLT := Lib.hid hlt
      clear hd hdA hdl hkn hlt hk0 hga hgi
      go_upto_block 1 with fail
      go_cut [9] (fun s9 wx => ∃ x' : Int, s9 = .int .i64 x' ∧ best3 (mis g cs i c) (k0 + 1) x' ∧ Below w.heap.size w wx)
      case first =>
        go_upto_region 6 with fail
        go_cut [9, 31] (fun s9 s31 wx => s9 = .int .i64 x ∧ s31 = .bool (ga != gi) ∧ Below w.heap.size w wx)
        case first =>
          go_upto_region 6 with fail
          go_quiet (fail)
          go_wp2
          go_meet
          exact ⟨rfl, rfl, below_dn HB.out _⟩
        case rest =>
          obtain ⟨rfl, rfl, hb3⟩ := hcut
          have HB3 := Lib.hid hb3
          clear hb3 g1 g2
          rename World => w3
          by_cases hgg : ga = gi
          · have hgb : (ga != gi) = false := by simpa using hgg
            have HM2 := Lib.hid (show mis g cs i c k0 = if ¬ d.M.take (min d.M.length c.M.length) = c.M.take (min d.M.length c.M.length) then some (unlikeS d.M c.M) else none by rw [HMIS.out]; simp [hgg])
            rw [hgb]
            clear hgb hgg
            go_wp2_with fail
            go_loopg [9, 11] c.M.length (fun k s9 s11 wr => ∃ q : Nat, q ≤ c.M.length ∧ q ≤ d.M.length ∧ k = c.M.length - q ∧ s9 = .int .i64 x ∧ s11 = .int .i64 (q : Int) ∧ d.M.take q = c.M.take q ∧ Below w.heap.size w wr)
            case atStart => exact ⟨0, by omega, by omega, rfl, rfl, rfl, rfl, HB3.out⟩
            case round =>
              obtain ⟨q, hq1, hq2, hk, rfl, rfl, heq, hb⟩ := hrel
              have HK2 := Lib.hid hk
              have HEQ := Lib.hid heq
              have HB4 := Lib.hid hb
              have kc1 := KC.out wr hb
              have kd1 := KD.out wr hb
              clear hk heq hb
              have hq0 : (0 : Int) ≤ (q : Int) := by omega
              by_cases hlt1 : q < c.M.length
              · have hqc : (q : Int) < (c.M.length : Int) := by omega
                by_cases hlt2 : q < d.M.length
                · have hqd : (q : Int) < (d.M.length : Int) := by omega
                  obtain ⟨bc, oc, ec, e1⟩ := HCA.out.l.parts (by rw [lv_length c.M HCA.out.hh]; omega)
                  obtain ⟨bd, od, ed, e2⟩ := HDA.out.l.parts (by rw [lv_length d.M HDA.out.hh]; omega)
                  rw [ec] at kc1
                  rw [ed] at kd1
                  have RG1 := Lib.hid (lk_range HCA.out.hh (fun j u hj => cell_below HB4.out.drew (e1 j u hj)) q hlt1)
                  have RG2 := Lib.hid (lk_range HDA.out.hh (fun j u hj => cell_below HB4.out.drew (e2 j u hj)) q hlt2)
                  have hx1 := HCA.out.hh _ (List.getElem_mem hlt1)
                  have hx2 := HDA.out.hh _ (List.getElem_mem hlt2)
                  have HQ := Lib.hid (fun W => eqLk2 c.M[q] d.M[q] (Nat.le_trans (HCA.out.ht _ (List.getElem_mem hlt1)) (by decide)) (Nat.le_trans (HDA.out.ht _ (List.getElem_mem hlt2)) (by decide)) hx1 hx2 W)
                  have t1 := List.take_succ_eq_append_getElem hlt1
                  have t2 := List.take_succ_eq_append_getElem hlt2
                  obtain ⟨qq, eq⟩ : ∃ qq, qq = decide (c.M[q] = d.M[q]) := ⟨_, rfl⟩
                  rw [← eq] at HQ
                  have HE1 := Lib.hid (show qq = true → d.M.take (q + 1) = c.M.take (q + 1) by
                    intro h
                    rw [t1, t2, HEQ.out, of_decide_eq_true (eq.symm.trans h)])
                  have HE2 := Lib.hid (show qq = false → mis g cs i c k0 = some q by
                    intro h
                    have h3 := of_decide_eq_false (eq.symm.trans h)
                    rw [HM2.out, if_pos, unlikeS_eq q d.M c.M HEQ.out (by omega) (by omega) (fun h1 h2 e => h3 e.symm)]
                    intro h2
                    apply h3
                    have hmn : q < min d.M.length c.M.length := by omega
                    have h4 := congrArg (fun l => l[q]?) h2
                    simp only [List.getElem?_take, hmn, if_true, List.getElem?_eq_getElem hlt1, List.getElem?_eq_getElem hlt2, Option.some.injEq] at h4
                    exact h4.symm)
                  have il1 : (Try.prog.info? 88).map (·.size) = some (lk c.M[q]).length := by rw [lk_length _ hx1]; exact info33r
                  have il2 : (Try.prog.info? 88).map (·.size) = some (lk d.M[q]).length := by rw [lk_length _ hx2]; exact info33r
                  obtain ⟨x1, ex1⟩ : ∃ x1, x1 = lk c.M[q] := ⟨_, rfl⟩
                  obtain ⟨x2, ex2⟩ : ∃ x2, x2 = lk d.M[q] := ⟨_, rfl⟩
                  rw [← ex1] at RG1 il1 HQ
                  rw [← ex2] at RG2 il2 HQ
                  have IL1 := Lib.hid il1
                  have IL2 := Lib.hid il2
                  have HL1 := Lib.hid hlt1
                  have HL2 := Lib.hid hlt2
                  have KI := Lib.hid (show wr.drew.cell? ⟨b, o + i * 2, none⟩ = some (.slice (some ⟨bc, oc, none⟩) c.M.length c.lc) from kc1)
                  have KK := Lib.hid (show wr.drew.cell? ⟨b, o + k0 * 2, none⟩ = some (.slice (some ⟨bd, od, none⟩) d.M.length d.lc) from kd1)
                  clear e1 e2 hx1 hx2 t1 t2 eq il1 il2 ex1 ex2 hlt1 hlt2 hq1 hq2
                  go_upto_region 10 with fail
                  clear kc1 kd1
                  refine region_by (fun W => W = wr.drew) [(fun v _ => v = .slice (some ⟨b, o, none⟩) cs.length ca), (fun v _ => v = .int .i64 (i : Int)), (fun v _ => v = .pointer (some ⟨b, o + i * 2, none⟩)), (fun v _ => v = .pointer (some ⟨b, o + i * 2, none⟩)), fun v _ => v = .slice (some ⟨bc, oc, none⟩) c.M.length c.lc, (fun v _ => v = .int .i64 (q : Int)), (fun v _ => v = .pointer (some ⟨bc, oc + q * 33, none⟩)), fun v _ => v = .agg x1.toArray, (fun v _ => v = .slice (some ⟨b, o, none⟩) cs.length ca), (fun v _ => v = .int .i64 (k0 : Int)), (fun v _ => v = .pointer (some ⟨b, o + k0 * 2, none⟩)), (fun v _ => v = .pointer (some ⟨b, o + k0 * 2, none⟩)), fun v _ => v = .slice (some ⟨bd, od, none⟩) d.M.length d.lc, (fun v _ => v = .int .i64 (q : Int)), (fun v _ => v = .pointer (some ⟨bd, od + q * 33, none⟩)), fun v _ => v = .agg x2.toArray, fun v _ => v = .bool (!qq)] (by kernel_rfl) (by kernel_rfl) (by kernel_rfl) rfl (rfl) ?ok10 ?fin10
                  case ok10 =>
                    refine ⟨?_, ?_, ?_, ?_, ?_, ?_, ?_, ?_, ?_, ?_, ?_, ?_, ?_, ?_, ?_, ?_, ?_, trivial⟩
                    · intro a' w' K hI hd hq hK
                      have e1 : a'.eval (.tmp 1) = .slice (some ⟨b, o, none⟩) cs.length ca := (hq 1 (by kernel_rfl)).trans rfl
                      clear hd hq
                      refine op_value (wanted_free _ _ (by rfl)) (v := .slice (some ⟨b, o, none⟩) cs.length ca) (w'' := w') ?_ (hK _ _ hI (fun _ _ h => h) rfl)
                      clear hK
                      simp only [execOp, e1]
                      have f1 : a'.tmps[1]?.getD undef = .slice (some ⟨b, o, none⟩) cs.length ca := (Array.getD_eq_getD_getElem? ..).symm.trans e1
                      clear e1
                      first | rfl | (go_simp <;> exact IntWalk.i64_in _ (by omega))
                    · intro a' w' K hI hd hq hK
                      have e3 : a'.eval (.tmp 3) = .int .i64 (i : Int) := (hq 3 (by kernel_rfl)).trans rfl
                      clear hd hq
                      refine op_value (wanted_free _ _ (by rfl)) (v := .int .i64 (i : Int)) (w'' := w') ?_ (hK _ _ hI (fun _ _ h => h) rfl)
                      clear hK
                      simp only [execOp, e3]
                      have f3 : a'.tmps[3]?.getD undef = .int .i64 (i : Int) := (Array.getD_eq_getD_getElem? ..).symm.trans e3
                      clear e3
                      first | rfl | (go_simp <;> exact IntWalk.i64_in _ (by omega))
                    · intro a' w' K hI hd hq hK
                      have e52 : a'.eval (.tmp 52) = .slice (some ⟨b, o, none⟩) cs.length ca := (hd 0 52 (by kernel_rfl))
                      have e53 : a'.eval (.tmp 53) = .int .i64 (i : Int) := (hd 1 53 (by kernel_rfl))
                      clear hd hq
                      refine op_value (wanted_free _ _ (by rfl)) (v := .pointer (some ⟨b, o + i * 2, none⟩)) (w'' := w') ?_ (hK _ _ hI (fun _ _ h => h) rfl)
                      clear hK
                      simp only [execOp, e52, e53]
                      have f52 : a'.tmps[52]?.getD undef = .slice (some ⟨b, o, none⟩) cs.length ca := (Array.getD_eq_getD_getElem? ..).symm.trans e52
                      have f53 : a'.tmps[53]?.getD undef = .int .i64 (i : Int) := (Array.getD_eq_getD_getElem? ..).symm.trans e53
                      clear e52 e53
                      first | rfl | (go_simp <;> exact IntWalk.i64_in _ (by omega))
                    · intro a' w' K hI hd hq hK
                      have e54 : a'.eval (.tmp 54) = .pointer (some ⟨b, o + i * 2, none⟩) := (hd 2 54 (by kernel_rfl))
                      clear hd hq
                      refine op_value (wanted_free _ _ (by rfl)) (v := .pointer (some ⟨b, o + i * 2, none⟩)) (w'' := w') ?_ (hK _ _ hI (fun _ _ h => h) rfl)
                      clear hK
                      simp only [execOp, e54]
                      have f54 : a'.tmps[54]?.getD undef = .pointer (some ⟨b, o + i * 2, none⟩) := (Array.getD_eq_getD_getElem? ..).symm.trans e54
                      clear e54
                      first | rfl | (go_simp <;> exact IntWalk.i64_in _ (by omega))
                    · intro a' w' K hI hd hq hK
                      have e55 : a'.eval (.tmp 55) = .pointer (some ⟨b, o + i * 2, none⟩) := (hd 3 55 (by kernel_rfl))
                      clear hd hq
                      subst hI
                      have kc := KI.out
                      refine op_value (wanted_free _ _ (by rfl)) (v := .slice (some ⟨bc, oc, none⟩) c.M.length c.lc) (w'' := wr.drew) ?_ (hK _ _ rfl (fun _ _ h => h) rfl)
                      clear hK
                      simp only [execOp, e55]
                      have f55 : a'.tmps[55]?.getD undef = .pointer (some ⟨b, o + i * 2, none⟩) := (Array.getD_eq_getD_getElem? ..).symm.trans e55
                      clear e55
                      go_simp
                    · intro a' w' K hI hd hq hK
                      have e11 : a'.eval (.tmp 11) = .int .i64 (q : Int) := (hq 11 (by kernel_rfl)).trans rfl
                      clear hd hq
                      refine op_value (wanted_free _ _ (by rfl)) (v := .int .i64 (q : Int)) (w'' := w') ?_ (hK _ _ hI (fun _ _ h => h) rfl)
                      clear hK
                      simp only [execOp, e11]
                      have f11 : a'.tmps[11]?.getD undef = .int .i64 (q : Int) := (Array.getD_eq_getD_getElem? ..).symm.trans e11
                      clear e11
                      first | rfl | (go_simp <;> exact IntWalk.i64_in _ (by omega))
                    · intro a' w' K hI hd hq hK
                      have e56 : a'.eval (.tmp 56) = .slice (some ⟨bc, oc, none⟩) c.M.length c.lc := (hd 4 56 (by kernel_rfl))
                      have e57 : a'.eval (.tmp 57) = .int .i64 (q : Int) := (hd 5 57 (by kernel_rfl))
                      clear hd hq
                      refine op_value (wanted_free _ _ (by rfl)) (v := .pointer (some ⟨bc, oc + q * 33, none⟩)) (w'' := w') ?_ (hK _ _ hI (fun _ _ h => h) rfl)
                      clear hK
                      simp only [execOp, e56, e57]
                      have f56 : a'.tmps[56]?.getD undef = .slice (some ⟨bc, oc, none⟩) c.M.length c.lc := (Array.getD_eq_getD_getElem? ..).symm.trans e56
                      have f57 : a'.tmps[57]?.getD undef = .int .i64 (q : Int) := (Array.getD_eq_getD_getElem? ..).symm.trans e57
                      clear e56 e57
                      first | rfl | (go_simp <;> exact IntWalk.i64_in _ (by omega))
                    · intro a' w' K hI hd hq hK
                      have e58 : a'.eval (.tmp 58) = .pointer (some ⟨bc, oc + q * 33, none⟩) := (hd 6 58 (by kernel_rfl))
                      clear hd hq
                      subst hI
                      refine op_value (wanted_free _ _ (by rfl)) (v := .agg x1.toArray) (w'' := wr.drew) ?_ (hK _ _ rfl (fun _ _ h => h) rfl)
                      simp only [execOp, e58, Instr.loadAt, Instr.sureAddr, Sem.run_bind, Sem.run_pure, Result.andThen_ok, run_loadVar_mid wr.drew bc (oc + q * 33) 88 x1 _ RG1.out Try.underlying88 rfl IL1.out]
                    · intro a' w' K hI hd hq hK
                      have e1 : a'.eval (.tmp 1) = .slice (some ⟨b, o, none⟩) cs.length ca := (hq 1 (by kernel_rfl)).trans rfl
                      clear hd hq
                      refine op_value (wanted_free _ _ (by rfl)) (v := .slice (some ⟨b, o, none⟩) cs.length ca) (w'' := w') ?_ (hK _ _ hI (fun _ _ h => h) rfl)
                      clear hK
                      simp only [execOp, e1]
                      have f1 : a'.tmps[1]?.getD undef = .slice (some ⟨b, o, none⟩) cs.length ca := (Array.getD_eq_getD_getElem? ..).symm.trans e1
                      clear e1
                      first | rfl | (go_simp <;> exact IntWalk.i64_in _ (by omega))
                    · intro a' w' K hI hd hq hK
                      have e10 : a'.eval (.tmp 10) = .int .i64 (k0 : Int) := (hq 10 (by kernel_rfl)).trans rfl
                      clear hd hq
                      refine op_value (wanted_free _ _ (by rfl)) (v := .int .i64 (k0 : Int)) (w'' := w') ?_ (hK _ _ hI (fun _ _ h => h) rfl)
                      clear hK
                      simp only [execOp, e10]
                      have f10 : a'.tmps[10]?.getD undef = .int .i64 (k0 : Int) := (Array.getD_eq_getD_getElem? ..).symm.trans e10
                      clear e10
                      first | rfl | (go_simp <;> exact IntWalk.i64_in _ (by omega))
                    · intro a' w' K hI hd hq hK
                      have e60 : a'.eval (.tmp 60) = .slice (some ⟨b, o, none⟩) cs.length ca := (hd 8 60 (by kernel_rfl))
                      have e61 : a'.eval (.tmp 61) = .int .i64 (k0 : Int) := (hd 9 61 (by kernel_rfl))
                      clear hd hq
                      refine op_value (wanted_free _ _ (by rfl)) (v := .pointer (some ⟨b, o + k0 * 2, none⟩)) (w'' := w') ?_ (hK _ _ hI (fun _ _ h => h) rfl)
                      clear hK
                      simp only [execOp, e60, e61]
                      have f60 : a'.tmps[60]?.getD undef = .slice (some ⟨b, o, none⟩) cs.length ca := (Array.getD_eq_getD_getElem? ..).symm.trans e60
                      have f61 : a'.tmps[61]?.getD undef = .int .i64 (k0 : Int) := (Array.getD_eq_getD_getElem? ..).symm.trans e61
                      clear e60 e61
                      first | rfl | (go_simp <;> exact IntWalk.i64_in _ (by omega))
                    · intro a' w' K hI hd hq hK
                      have e62 : a'.eval (.tmp 62) = .pointer (some ⟨b, o + k0 * 2, none⟩) := (hd 10 62 (by kernel_rfl))
                      clear hd hq
                      refine op_value (wanted_free _ _ (by rfl)) (v := .pointer (some ⟨b, o + k0 * 2, none⟩)) (w'' := w') ?_ (hK _ _ hI (fun _ _ h => h) rfl)
                      clear hK
                      simp only [execOp, e62]
                      have f62 : a'.tmps[62]?.getD undef = .pointer (some ⟨b, o + k0 * 2, none⟩) := (Array.getD_eq_getD_getElem? ..).symm.trans e62
                      clear e62
                      first | rfl | (go_simp <;> exact IntWalk.i64_in _ (by omega))
                    · intro a' w' K hI hd hq hK
                      have e63 : a'.eval (.tmp 63) = .pointer (some ⟨b, o + k0 * 2, none⟩) := (hd 11 63 (by kernel_rfl))
                      clear hd hq
                      subst hI
                      have kc := KK.out
                      refine op_value (wanted_free _ _ (by rfl)) (v := .slice (some ⟨bd, od, none⟩) d.M.length d.lc) (w'' := wr.drew) ?_ (hK _ _ rfl (fun _ _ h => h) rfl)
                      clear hK
                      simp only [execOp, e63]
                      have f63 : a'.tmps[63]?.getD undef = .pointer (some ⟨b, o + k0 * 2, none⟩) := (Array.getD_eq_getD_getElem? ..).symm.trans e63
                      clear e63
                      go_simp
                    · intro a' w' K hI hd hq hK
                      have e11 : a'.eval (.tmp 11) = .int .i64 (q : Int) := (hq 11 (by kernel_rfl)).trans rfl
                      clear hd hq
                      refine op_value (wanted_free _ _ (by rfl)) (v := .int .i64 (q : Int)) (w'' := w') ?_ (hK _ _ hI (fun _ _ h => h) rfl)
                      clear hK
                      simp only [execOp, e11]
                      have f11 : a'.tmps[11]?.getD undef = .int .i64 (q : Int) := (Array.getD_eq_getD_getElem? ..).symm.trans e11
                      clear e11
                      first | rfl | (go_simp <;> exact IntWalk.i64_in _ (by omega))
                    · intro a' w' K hI hd hq hK
                      have e64 : a'.eval (.tmp 64) = .slice (some ⟨bd, od, none⟩) d.M.length d.lc := (hd 12 64 (by kernel_rfl))
                      have e65 : a'.eval (.tmp 65) = .int .i64 (q : Int) := (hd 13 65 (by kernel_rfl))
                      clear hd hq
                      refine op_value (wanted_free _ _ (by rfl)) (v := .pointer (some ⟨bd, od + q * 33, none⟩)) (w'' := w') ?_ (hK _ _ hI (fun _ _ h => h) rfl)
                      clear hK
                      simp only [execOp, e64, e65]
                      have f64 : a'.tmps[64]?.getD undef = .slice (some ⟨bd, od, none⟩) d.M.length d.lc := (Array.getD_eq_getD_getElem? ..).symm.trans e64
                      have f65 : a'.tmps[65]?.getD undef = .int .i64 (q : Int) := (Array.getD_eq_getD_getElem? ..).symm.trans e65
                      clear e64 e65
                      first | rfl | (go_simp <;> exact IntWalk.i64_in _ (by omega))
                    · intro a' w' K hI hd hq hK
                      have e66 : a'.eval (.tmp 66) = .pointer (some ⟨bd, od + q * 33, none⟩) := (hd 14 66 (by kernel_rfl))
                      clear hd hq
                      subst hI
                      refine op_value (wanted_free _ _ (by rfl)) (v := .agg x2.toArray) (w'' := wr.drew) ?_ (hK _ _ rfl (fun _ _ h => h) rfl)
                      simp only [execOp, e66, Instr.loadAt, Instr.sureAddr, Sem.run_bind, Sem.run_pure, Result.andThen_ok, run_loadVar_mid wr.drew bd (od + q * 33) 88 x2 _ RG2.out Try.underlying88 rfl IL2.out]
                    · intro a' w' K hI hd hq hK
                      have e59 : a'.eval (.tmp 59) = .agg x1.toArray := (hd 7 59 (by kernel_rfl))
                      have e67 : a'.eval (.tmp 67) = .agg x2.toArray := (hd 15 67 (by kernel_rfl))
                      clear hd hq
                      refine op_value (wanted_free _ _ (by rfl)) (v := .bool (!qq)) (w'' := w') ?_ (hK _ _ hI (fun _ _ h => h) rfl)
                      simp only [execOp, e59, e67, Sem.run_bind, run_eqGuard_agg w' _ 88 _ _ _ _ (show Try.prog.eqGuardType Try.prog.depth 88 = false by kernel_rfl), run_neq_struct, HQ.out w', Result.andThen_ok, Sem.run_pure]
                  case fin10 =>
                    rintro w' hI _ rfl _ rfl _ rfl _ rfl _ rfl _ rfl _ rfl _ rfl _ rfl _ rfl _ rfl _ rfl _ rfl _ rfl _ rfl _ rfl _ rfl
                    simp only [Act.put, List.setIfInBounds_toArray, List.set_cons_zero, List.set_cons_succ, FinGoal]
                    subst hI
                    cases qq with
                    | true =>
                      go_wp2_with fail
                      go_roundg (c.M.length - (q + 1))
                      case measure => have := HK2.out; have := HL1.out; omega
                      case rel => exact ⟨q + 1, HL1.out, HL2.out, rfl, rfl, by go_num, HE1.out (by first | trivial | rfl), HB4.out.drew⟩
                    | false =>
                      have hmis := HE2.out (by first | trivial | rfl)
                      have hlo := best3_lo HBE.out
                      by_cases hx0 : x < 0
                      · have HN := Lib.hid (best3_low HBE.out hmis (.inl hx0))
                        clear hmis
                        go_wp2_with fail
                        go_meet
                        exact ⟨_, rfl, HN.out, HB4.out.drew⟩
                      · by_cases hxq : (q : Int) < x
                        · have HN := Lib.hid (best3_low HBE.out hmis (.inr hxq))
                          clear hmis
                          go_wp2_with fail
                          go_meet
                          exact ⟨_, rfl, HN.out, HB4.out.drew⟩
                        · have HN := Lib.hid (best3_high HBE.out hmis (by omega))
                          clear hmis
                          go_wp2_with fail
                          go_meet
                          exact ⟨_, rfl, HN.out, HB4.out.drew⟩
                · have hqe : q = d.M.length := by omega
                  have hqd : ¬ ((q : Int) < (d.M.length : Int)) := by omega
                  have HN := Lib.hid (show best3 (mis g cs i c) (k0 + 1) x from best3_none HBE.out (by
                    rw [HM2.out, if_neg]
                    intro h
                    apply h
                    rw [show min d.M.length c.M.length = q by omega]
                    exact HEQ.out))
                  clear hlt1 hlt2 hqe hq1 hq2
                  go_wp2_with fail
                  go_meet
                  exact ⟨_, rfl, HN.out, HB4.out⟩
              · have hqc : ¬ ((q : Int) < (c.M.length : Int)) := by omega
                have HN := Lib.hid (show best3 (mis g cs i c) (k0 + 1) x from best3_none HBE.out (by
                  rw [HM2.out, if_neg]
                  intro h
                  apply h
                  rw [show min d.M.length c.M.length = q by omega]
                  exact HEQ.out))
                clear hlt1 hq1 hq2
                go_wp2_with fail
                go_meet
                exact ⟨_, rfl, HN.out, HB4.out⟩
          · have hgb : (ga != gi) = true := by simpa using hgg
            have HN := Lib.hid (show best3 (mis g cs i c) (k0 + 1) x from best3_none HBE.out (by rw [HMIS.out, if_neg (fun h => hgg h.1)]))
            rw [hgb]
            clear hgb hgg
            go_wp2_with fail
            go_meet
            exact ⟨_, rfl, HN.out, HB3.out⟩
      case rest =>
        obtain ⟨x', rfl, hbe, hb⟩ := hcut
        have HBE2 := Lib.hid hbe
        have HB5 := Lib.hid hb
        clear hbe hb g1 g2
        go_wp2_with fail
        go_roundg (i - (k0 + 1))
        case measure => have := HK.out; have := HLT.out; omega
        case rel => exact ⟨k0 + 1, x', HLT.out, rfl, rfl, by go_num, HBE2.out, HB5.out⟩
    · obtain rfl : k0 = i := by omega
      clear hlt hk0
      go_wp2_with fail
      go_ret
      exact ⟨_, rfl, HBE.out, HB.out⟩
end Go.Proofs.Ytjakhemolecbnaa
end
