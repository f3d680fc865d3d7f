/-
  The texts RefWrong2 of this proof in one (what is used of them): what each proves is said at its head. No conditions beyond those that each theorem says.
-/
import Derived.Test.YtjakhemolecbnaaNK

/-
  The walk of the reference's wrong, rules 5 and 7.
-/
section
set_option linter.unusedVariables false
set_option linter.unusedSimpArgs false
namespace Go.Proofs.Ytjakhemolecbnaa
open Go.RowKit

/-- Rules 5 and 7: the test of another claim's record. -/
def t57 (r : Int) (m y : Rp) : Bool := decide (y.tx = m.tx) && ((y.kind == 3 || y.kind == 4) && ((r == 5 && y.kind != m.kind) || (r == 7 && (m.kind == 3 && (y.kind == 3 && !decide (m.groups = y.groups))))))
def tD (cs : List Rc) (i : Nat) (T : Rp → Bool) (k : Nat) : Bool := decide (k ≠ i) && (match cs[k]? with | some c => (c.recs.map Rm.p).any T | none => false)
def anyD (cs : List Rc) (i : Nat) (T : Rp → Bool) (k : Nat) : Bool := (List.range k).any (tD cs i T)
def res57 (r : Int) (cs : List Rc) (i : Nat) (gr : Int) (m : Rp) : Bool := (decide (r = 7) && (decide (m.kind = 3) && !decide (gr ∈ m.groups))) || anyD cs i (t57 r m) cs.length
theorem anyD_succ (cs : List Rc) (i : Nat) (T : Rp → Bool) (k : Nat) : anyD cs i T (k + 1) = (anyD cs i T k || tD cs i T k) := by
  unfold anyD
  rw [List.range_succ, List.any_append]
  simp
theorem anyD_up {cs : List Rc} {i : Nat} {T : Rp → Bool} {k n : Nat} (h : k < n) (ht : tD cs i T k = true) : anyD cs i T n = true :=
  List.any_eq_true.2 ⟨k, List.mem_range.2 h, ht⟩

set_option maxRecDepth 100000 in
set_option maxHeartbeats 16000000 in
theorem wrong57_any (r : Int) (bl ol ln lc : Nat) (gr : Int) (A : Option Addr) (n ca : Nat) (cs : List Rc) (i q : Nat) (c : Rc) (m : Rm) (w : World) (hr57 : r = 5 ∨ r = 7) (hmk : m.kind = 3 ∨ m.kind = 4) (hl : cs.length = n) (hln : i < ln) (hG : w.cell? ⟨bl, ol + i * 2, none⟩ = some (.int .i64 gr)) (hr : RcsAt w A cs) (hc : cs[i]? = some c) (hm : c.recs[q]? = some m) :
    Calls Try.prog 65 #[.slice (some ⟨bl, ol, none⟩) ln lc, .slice A n ca, .int .i64 r, .int .i64 (i : Int), .int .i64 (q : Int)] w fun e w' => e = .returned (.bool (res57 r cs i gr m.p)) ∧ Below w.heap.size w w' := by
  subst hl
  have hi := (List.getElem?_eq_some_iff.1 hc).1
  have hq := (List.getElem?_eq_some_iff.1 hm).1
  have hn := hr.n
  obtain ⟨b, o, rfl, _⟩ := hr.r.part (by rw [rcc_length]; omega)
  have hcA := hr.x c (List.mem_of_getElem? hc)
  have hlR := hcA.lR
  obtain ⟨br, or', hrA, x0, x1, x2, x3⟩ := hcA.rcd hm
  have k1 := (hr.claim hc).2
  rw [hrA] at k1
  have hmg := hcA.g m (List.mem_of_getElem? hm)
  obtain ⟨mk, mt, mA, mc, mg, mb⟩ := m
  dsimp only at x0 x1 x2 x3 hmg hmk
  have b01 : Below w.heap.size w (w.alloc (.cells #[.int .i64 mk, .string (strB mt), .slice mA mg.length mc, .string (strB mb)] 55)) := (Below.refl _ _).alloc (Nat.le_refl _) _
  have hx1 := heap_alloc_new w (.cells #[.int .i64 mk, .string (strB mt), .slice mA mg.length mc, .string (strB mb)] 55)
  obtain ⟨w1, hw1⟩ : ∃ w1, w1 = w.alloc (.cells #[.int .i64 mk, .string (strB mt), .slice mA mg.length mc, .string (strB mb)] 55) := ⟨_, rfl⟩
  rw [← hw1] at b01 hx1
  obtain ⟨gx, hgx⟩ : ∃ gx, gx = w.heap.size := ⟨_, rfl⟩
  rw [← hgx] at hx1
  have HW1 := Lib.hid hw1
  have HGX := Lib.hid hgx
  have B01 := Lib.hid b01
  have KX := Lib.hid (show ∀ W, Below w1.heap.size w1 W → W.cell? ⟨gx, 0, none⟩ = some (.int .i64 mk) ∧ W.cell? ⟨gx, 1, none⟩ = some (.string (strB mt)) ∧ W.cell? ⟨gx, 2, none⟩ = some (.slice mA mg.length mc) from fun W hW => ⟨cell_below hW ((cell_of_row w1 gx 0 _ _ _ hx1).trans rfl), cell_below hW ((cell_of_row w1 gx 1 _ _ _ hx1).trans rfl), cell_below hW ((cell_of_row w1 gx 2 _ _ _ hx1).trans rfl)⟩)
  have KG := Lib.hid (show ∀ W, Below w1.heap.size w1 W → W.cell? ⟨bl, ol + i * 2, none⟩ = some (.int .i64 gr) from fun W hW => cell_below hW (cell_below b01 hG))
  have RG1 := Lib.hid (show RG w1 mA mg from hmg.1.below b01)
  have HR1 := Lib.hid (hr.below b01)
  have HML := Lib.hid hmg.2
  have HMK := Lib.hid hmk
  have H57 := Lib.hid hr57
  have hr4 : (r == 4) = false := by simp; omega
  have hr6 : (r == 6) = false := by simp; omega
  have hi0 : (0 : Int) ≤ (i : Int) := by omega
  have hi1 : (i : Int) < (cs.length : Int) := by omega
  have hi2 : (i : Int) < (ln : Int) := by omega
  have hn1 : (cs.length : Int) ≤ 1000 := by omega
  have hq0 : (0 : Int) ≤ (q : Int) := by omega
  have hq1 : (q : Int) < (c.recs.length : Int) := by omega
  have HI := Lib.hid hi
  clear hcA hrA hw1 hgx b01 hx1 hr hc hm hi hq hlR hG hmg hr57 hmk hln hn
  go_enter Try.func65, Try.ntmps65
  go_upto_region 2 with fail
  rw [show w.alloc (.cells #[.int .i64 mk, .string (strB mt), .slice mA mg.length mc, .string (strB mb)] 55) = w1 from HW1.out.symm, ← HGX.out]
  clear k1 x0 x1 x2 x3 hq0 hq1
  go_upto_region 18 with fail
  obtain ⟨bo, hbo⟩ : ∃ bo, bo = (decide (r = 7) && decide (mk = 3)) := ⟨_, rfl⟩
  have BO := Lib.hid hbo
  clear hbo
  go_cut [104] (fun s wx => s = .bool bo ∧ wx = w1)
  case first =>
    have hb := BO.out
    rcases H57.out with rfl | rfl
    · have HE := Lib.hid (show false = bo by rw [hb]; simp)
      clear hb
      go_wp2_with fail
      go_meet
      exact ⟨ret_val HE.out, rfl⟩
    · obtain ⟨g0, _, _⟩ := KX.out w1 (Below.refl _ _)
      rcases HMK.out with rfl | rfl
      · have HE := Lib.hid (show true = bo by rw [hb]; simp)
        clear hb
        go_wp2_with fail
        go_meet
        exact ⟨ret_val HE.out, rfl⟩
      · have HE := Lib.hid (show false = bo by rw [hb]; simp)
        clear hb
        go_wp2_with fail
        go_meet
        exact ⟨ret_val HE.out, rfl⟩
  case rest =>
    obtain ⟨rfl, hwx⟩ := hcut
    have hwx2 := hwx.symm
    clear hwx
    subst hwx2
    go_upto_if 104 with fail
    go_cut [] (fun wx => (bo = true → gr ∈ mg) ∧ Below w1.heap.size w1 wx)
    case first =>
      cases bo with
      | false =>
        go_wp2_with fail
        go_meet
        exact ⟨fun h => by simp at h, Below.refl _ _⟩
      | true =>
        have hgl : (mg.length : Int) ≤ 1000 := by have := HML.out; omega
        go_upto_block 5 with fail
        go_wp2_with fail
        go_loopg [15, 16] mg.length (fun k s15 s16 wr => ∃ j : Nat, j ≤ mg.length ∧ k = mg.length - j ∧ s15 = .bool (decide (gr ∈ mg.take j)) ∧ s16 = .int .i64 (j : Int) ∧ Below w1.heap.size w1 wr)
        case atStart => exact ⟨0, by omega, rfl, by simp, rfl, Below.refl _ _⟩
        case round =>
          obtain ⟨j, hj, hk, rfl, rfl, hb⟩ := hrel
          have HK := Lib.hid hk
          have HB := Lib.hid hb
          obtain ⟨_, _, g2⟩ := KX.out wr hb
          have gg := KG.out wr hb
          clear hk hb
          by_cases hlt : j < mg.length
          · obtain ⟨ba, oa, rfl, hca⟩ := RG1.out.part (by omega)
            have c1 : wr.cell? ⟨ba, oa + j, none⟩ = some (.int .i64 mg[j]) := cell_below HB.out (hca j hlt)
            have HST := Lib.hid (show decide (gr ∈ mg.take (j + 1)) = (decide (gr ∈ mg.take j) || (mg[j] == gr)) by
              rw [List.take_succ_eq_append_getElem hlt, Bool.eq_iff_iff]
              simp only [decide_eq_true_eq, List.mem_append, List.mem_singleton, Bool.or_eq_true, beq_iff_eq]
              exact or_congr_right eq_comm)
            obtain ⟨x, hx⟩ : ∃ x, x = mg[j] := ⟨_, rfl⟩
            rw [← hx] at c1 HST
            obtain ⟨qi, hqi⟩ : ∃ qi, qi = decide (gr ∈ mg.take j) := ⟨_, rfl⟩
            rw [← hqi] at HST ⊢
            have hj0 : (0 : Int) ≤ (j : Int) := by omega
            have hj1 : (j : Int) < (mg.length : Int) := by omega
            have HLT := Lib.hid hlt
            clear hx hqi hca hlt hj
            go_upto_block 6 with fail
            go_cut [15] (fun s15 wx => s15 = .bool (qi || (x == gr)) ∧ Below w1.heap.size w1 wx)
            case first =>
              cases qi with
              | true =>
                go_upto_region 23 with fail
                go_quiet (fail)
                go_wp2
                go_meet
                exact ⟨rfl, below_dn HB.out _⟩
              | false =>
                go_upto_region 23 with fail
                go_quiet (fail)
                go_wp2
                go_meet
                exact ⟨rfl, below_dn HB.out _⟩
            case rest =>
              obtain ⟨rfl, hb3⟩ := hcut
              have HB3 := Lib.hid hb3
              clear hb3 c1 g2 gg
              go_wp2_with fail
              go_roundg (mg.length - (j + 1))
              case measure => have := HK.out; have := HLT.out; omega
              case rel => exact ⟨j + 1, HLT.out, rfl, by rw [HST.out], by go_num, HB3.out⟩
          · obtain rfl : j = mg.length := by omega
            rw [List.take_length]
            by_cases hin : gr ∈ mg
            · rw [decide_eq_true hin]
              have HIN := Lib.hid hin
              clear hlt hj hin
              go_wp2_with fail
              go_meet
              exact ⟨fun _ => HIN.out, HB.out⟩
            · rw [decide_eq_false hin]
              have HT := Lib.hid (show true = res57 r cs i gr ⟨mk, mt, mg, mb⟩ by
                have hb := BO.out
                unfold res57
                dsimp only
                rw [decide_eq_false hin, ← Bool.and_assoc, ← hb]
                simp)
              clear hlt hj hin
              go_wp2_with fail
              go_ret
              exact ⟨ret_bool HT.out, below_below B01.out B01.out.size HB.out⟩
    case rest =>
      obtain ⟨hgr, hb⟩ := hcut
      rename World => w2
      have B12 := Lib.hid hb
      have HRES := Lib.hid (show ∀ d : Bool, anyD cs i (t57 r ⟨mk, mt, mg, mb⟩) cs.length = d → res57 r cs i gr ⟨mk, mt, mg, mb⟩ = d from fun d hd => by
        unfold res57
        dsimp only
        rw [hd]
        have hb := BO.out
        have h0 : (decide (r = 7) && (decide (mk = 3) && !decide (gr ∈ mg))) = false := by
          cases bo with
          | false => rw [← Bool.and_assoc, ← hb]; rfl
          | true => simp [hgr rfl]
        rw [h0]
        rfl)
      clear hgr hb
      go_upto_block 7 with fail
      go_wp2_with fail
      go_loopg [17] cs.length (fun k s17 wr => ∃ k0 : Nat, k0 ≤ cs.length ∧ k = cs.length - k0 ∧ s17 = .int .i64 (k0 : Int) ∧ anyD cs i (t57 r ⟨mk, mt, mg, mb⟩) k0 = false ∧ Below w1.heap.size w1 wr)
      case atStart => exact ⟨0, by omega, rfl, rfl, rfl, B12.out⟩
      case round =>
        obtain ⟨k0, hk0, hk, rfl, han, hb⟩ := hrel
        have HK := Lib.hid hk
        have HAN := Lib.hid han
        have HB := Lib.hid hb
        clear hk han hb
        by_cases hlt : k0 < cs.length
        · obtain ⟨d, hd⟩ : ∃ d, cs[k0]? = some d := ⟨_, List.getElem?_eq_getElem hlt⟩
          have HD := Lib.hid hd
          have hdA := HR1.out.x d (List.mem_of_getElem? hd)
          have hdl := hdA.lR
          have KD := Lib.hid (fun W (hW : Below w1.heap.size w1 W) => ((HR1.out.below hW).claim hd).2)
          have HDA := Lib.hid hdA
          have HSK := Lib.hid (show ∀ t : Bool, tD cs i (t57 r ⟨mk, mt, mg, mb⟩) k0 = t → anyD cs i (t57 r ⟨mk, mt, mg, mb⟩) (k0 + 1) = t from fun t ht => by rw [anyD_succ, HAN.out, ht]; simp)
          have hkk0 : (0 : Int) ≤ (k0 : Int) := by omega
          have hkk1 : (k0 : Int) < (cs.length : Int) := by omega
          have hdl1 : (d.recs.length : Int) ≤ 5000 := by omega
          have HLT := Lib.hid hlt
          clear hd hdA hdl hlt hk0
          go_upto_block 8 with fail
          go_wp2_with fail
          go_loopg [18] d.recs.length (fun k s18 wr => ∃ j : Nat, j ≤ d.recs.length ∧ k = d.recs.length - j ∧ s18 = .int .i64 (j : Int) ∧ ((d.recs.map Rm.p).take j).any (t57 r ⟨mk, mt, mg, mb⟩) = false ∧ Below w1.heap.size w1 wr)
          case atStart => exact ⟨0, by omega, rfl, rfl, rfl, HB.out⟩
          case round =>
            obtain ⟨j, hj, hk, rfl, han, hb⟩ := hrel
            have HK2 := Lib.hid hk
            have HAN2 := Lib.hid han
            have HB2 := Lib.hid hb
            have k1 := KD.out wr hb
            clear hk han hb
            by_cases hlt : j < d.recs.length
            · by_cases hki : k0 = i
              · have HF := Lib.hid (HSK.out false (by unfold tD; simp [hki]))
                have hj0 : (0 : Int) ≤ (j : Int) := by omega
                have hj1 : (j : Int) < (d.recs.length : Int) := by omega
                subst hki
                clear hlt hj
                go_wp2_with fail
                go_roundg (cs.length - (k0 + 1))
                case measure => have := HK.out; have := HLT.out; omega
                case rel => exact ⟨k0 + 1, HLT.out, rfl, by go_num, HF.out, HB2.out⟩
              · have hkib : ((k0 : Int) != (i : Int)) = true := by simp; omega
                obtain ⟨y, hy⟩ : ∃ y, d.recs[j]? = some y := ⟨_, List.getElem?_eq_getElem hlt⟩
                have HST := Lib.hid (show ((d.recs.map Rm.p).take (j + 1)).any (t57 r ⟨mk, mt, mg, mb⟩) = (((d.recs.map Rm.p).take j).any (t57 r ⟨mk, mt, mg, mb⟩) || t57 r ⟨mk, mt, mg, mb⟩ y.p) from any_take _ _ j y.p (by rw [List.getElem?_map, hy]; rfl))
                have HFALSE := Lib.hid (show t57 r ⟨mk, mt, mg, mb⟩ y.p = false → ((d.recs.map Rm.p).take (j + 1)).any (t57 r ⟨mk, mt, mg, mb⟩) = false from fun h => by rw [HST.out, HAN2.out, h]; rfl)
                have HTRUE := Lib.hid (show t57 r ⟨mk, mt, mg, mb⟩ y.p = true → res57 r cs i gr ⟨mk, mt, mg, mb⟩ = true from fun h => by
                  refine HRES.out true (anyD_up HLT.out ?_)
                  unfold tD
                  rw [HD.out]
                  simp only [decide_eq_true (show k0 ≠ i from hki), Bool.true_and]
                  exact List.any_eq_true.2 ⟨y.p, List.mem_map.2 ⟨y, List.mem_of_getElem? hy, rfl⟩, h⟩)
                obtain ⟨br', or'', e, y0, y1, y2, y3⟩ := (HDA.out.below HB2.out).rcd hy
                rw [e] at k1
                have hyg := HDA.out.g y (List.mem_of_getElem? hy)
                obtain ⟨yk, yt, yA, yc, yg, yb⟩ := y
                dsimp only at y0 y1 y2 y3 hyg
                have hj0 : (0 : Int) ≤ (j : Int) := by omega
                have hj1 : (j : Int) < (d.recs.length : Int) := by omega
                have HLT2 := Lib.hid hlt
                have hb5 : Below wr.heap.size wr (wr.alloc (.cells #[.int .i64 yk, .string (strB yt), .slice yA yg.length yc, .string (strB yb)] 55)) := (Below.refl _ _).alloc (Nat.le_refl _) _
                have hx5 := heap_alloc_new wr (.cells #[.int .i64 yk, .string (strB yt), .slice yA yg.length yc, .string (strB yb)] 55)
                obtain ⟨w5, hw5⟩ : ∃ w5, w5 = wr.alloc (.cells #[.int .i64 yk, .string (strB yt), .slice yA yg.length yc, .string (strB yb)] 55) := ⟨_, rfl⟩
                rw [← hw5] at hb5 hx5
                obtain ⟨gy, hgy⟩ : ∃ gy, gy = wr.heap.size := ⟨_, rfl⟩
                rw [← hgy] at hx5
                have B5 := Lib.hid (below_below HB2.out HB2.out.size hb5)
                have RGY := Lib.hid (show RG w5 yA yg from hyg.1.below (below_below HB2.out HB2.out.size hb5))
                have RGM := Lib.hid (show RG w5 mA mg from RG1.out.below (below_below HB2.out HB2.out.size hb5))
                have HW5 := Lib.hid hw5
                have HGY := Lib.hid hgy
                have HX5 := Lib.hid hx5
                clear hy hb5 hx5 hw5 hgy hlt hj e hyg
                go_upto_region 33 with fail
                rw [show wr.alloc (.cells #[.int .i64 yk, .string (strB yt), .slice yA yg.length yc, .string (strB yb)] 55) = w5 from HW5.out.symm, ← HGY.out]
                clear y0 y1 y2 y3 k1
                obtain ⟨g0, g1, g2⟩ := KX.out w5 B5.out
                have y0 : w5.cell? ⟨gy, 0, none⟩ = some (.int .i64 yk) := (cell_of_row w5 gy 0 _ _ _ HX5.out).trans rfl
                have y1 : w5.cell? ⟨gy, 1, none⟩ = some (.string (strB yt)) := (cell_of_row w5 gy 1 _ _ _ HX5.out).trans rfl
                have y2 : w5.cell? ⟨gy, 2, none⟩ = some (.slice yA yg.length yc) := (cell_of_row w5 gy 2 _ _ _ HX5.out).trans rfl
                by_cases ht : yt = mt
                · have h57 := H57.out
                  have hmk := HMK.out
                  subst ht
                  generalize strB yt = z at *
                  by_cases hyk : yk = 3 ∨ yk = 4
                  · rcases hyk with rfl | rfl <;> rcases hmk with rfl | rfl <;> rcases h57 with rfl | rfl
                    · have HF := Lib.hid (HFALSE.out (by simp [t57, Rm.p]))
                      clear hkib
                      go_wp2_with fail
                      go_roundg (d.recs.length - (j + 1))
                      case measure => have := HK2.out; have := HLT2.out; omega
                      case rel => exact ⟨j + 1, HLT2.out, rfl, by go_num, HF.out, B5.out⟩
                    · clear hkib
                      go_wp2_with fail
                      refine (sameR_any mA yA mg.length yg.length mc yc mg yg w5 rfl rfl (by have := HML.out; omega) RGM.out RGY.out).mono ?_
                      rintro e w6 ⟨rfl, hb6⟩
                      have B6 := Lib.hid (below_below B5.out B5.out.size hb6)
                      clear hb6 g0 g1 g2 y0 y1 y2
                      by_cases hge : mg = yg
                      · rw [decide_eq_true hge]
                        have HF := Lib.hid (HFALSE.out (by simp [t57, Rm.p, hge]))
                        clear hge
                        go_wp2_with fail
                        go_roundg (d.recs.length - (j + 1))
                        case measure => have := HK2.out; have := HLT2.out; omega
                        case rel => exact ⟨j + 1, HLT2.out, rfl, by go_num, HF.out, B6.out⟩
                      · rw [decide_eq_false hge]
                        have HT := Lib.hid (HTRUE.out (by simp [t57, Rm.p, hge]))
                        clear hge
                        go_wp2_with fail
                        go_ret
                        exact ⟨ret_bool HT.out.symm, below_below B01.out B01.out.size B6.out⟩
                    · have HT := Lib.hid (HTRUE.out (by simp [t57, Rm.p]))
                      clear hkib
                      go_wp2_with fail
                      go_ret
                      exact ⟨ret_bool HT.out.symm, below_below B01.out B01.out.size B5.out⟩
                    · have HF := Lib.hid (HFALSE.out (by simp [t57, Rm.p]))
                      clear hkib
                      go_wp2_with fail
                      go_roundg (d.recs.length - (j + 1))
                      case measure => have := HK2.out; have := HLT2.out; omega
                      case rel => exact ⟨j + 1, HLT2.out, rfl, by go_num, HF.out, B5.out⟩
                    · have HT := Lib.hid (HTRUE.out (by simp [t57, Rm.p]))
                      clear hkib
                      go_wp2_with fail
                      go_ret
                      exact ⟨ret_bool HT.out.symm, below_below B01.out B01.out.size B5.out⟩
                    · have HF := Lib.hid (HFALSE.out (by simp [t57, Rm.p]))
                      clear hkib
                      go_wp2_with fail
                      go_roundg (d.recs.length - (j + 1))
                      case measure => have := HK2.out; have := HLT2.out; omega
                      case rel => exact ⟨j + 1, HLT2.out, rfl, by go_num, HF.out, B5.out⟩
                    · have HF := Lib.hid (HFALSE.out (by simp [t57, Rm.p]))
                      clear hkib
                      go_wp2_with fail
                      go_roundg (d.recs.length - (j + 1))
                      case measure => have := HK2.out; have := HLT2.out; omega
                      case rel => exact ⟨j + 1, HLT2.out, rfl, by go_num, HF.out, B5.out⟩
                    · have HF := Lib.hid (HFALSE.out (by simp [t57, Rm.p]))
                      clear hkib
                      go_wp2_with fail
                      go_roundg (d.recs.length - (j + 1))
                      case measure => have := HK2.out; have := HLT2.out; omega
                      case rel => exact ⟨j + 1, HLT2.out, rfl, by go_num, HF.out, B5.out⟩
                  · have h3 : (yk != 3) = true := by simp; omega
                    have h4 : (yk != 4) = true := by simp; omega
                    have HF := Lib.hid (HFALSE.out (by unfold t57 Rm.p; simp only []; rw [show (yk == 3 || yk == 4) = false by simp; omega]; simp))
                    clear hkib hyk h57 hmk
                    go_wp2_with fail
                    go_roundg (d.recs.length - (j + 1))
                    case measure => have := HK2.out; have := HLT2.out; omega
                    case rel => exact ⟨j + 1, HLT2.out, rfl, by go_num, HF.out, B5.out⟩
                · have hzf : ((strB yt).toList == (strB mt).toList) = false := by rw [ByteArray.toList_eq, ByteArray.toList_eq, strB_toList, strB_toList]; simpa using ht
                  have HF := Lib.hid (HFALSE.out (by simp [t57, Rm.p, ht]))
                  clear hkib ht
                  generalize strB yt = z1 at *
                  generalize strB mt = z2 at *
                  go_wp2_with fail
                  go_roundg (d.recs.length - (j + 1))
                  case measure => have := HK2.out; have := HLT2.out; omega
                  case rel => exact ⟨j + 1, HLT2.out, rfl, by go_num, HF.out, B5.out⟩
            · obtain rfl : j = d.recs.length := by omega
              have HF := Lib.hid (HSK.out false (by
                unfold tD
                rw [HD.out]
                have h := HAN2.out
                rw [List.take_of_length_le (by simp)] at h
                simp only [h, Bool.and_false]))
              have hj1 : ¬ ((d.recs.length : Int) < (d.recs.length : Int)) := by omega
              clear hlt hj
              go_wp2_with fail
              go_roundg (cs.length - (k0 + 1))
              case measure => have := HK.out; have := HLT.out; omega
              case rel => exact ⟨k0 + 1, HLT.out, rfl, by go_num, HF.out, HB2.out⟩
        · obtain rfl : k0 = cs.length := by omega
          have HF := Lib.hid (HRES.out false HAN.out)
          clear hlt hk0
          go_wp2_with fail
          go_ret
          exact ⟨ret_bool HF.out.symm, below_below B01.out B01.out.size HB.out⟩
end Go.Proofs.Ytjakhemolecbnaa
end
