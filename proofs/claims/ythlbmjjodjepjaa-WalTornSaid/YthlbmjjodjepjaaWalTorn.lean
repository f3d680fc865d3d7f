/-
  The walk of the law WalTorn.
-/
import Derived.Test.YthlbmjjodjepjaaWalBack
import Derived.Test.YthlbmjjodjepjaaWithin
import Derived.Deep.CutBlock
set_option linter.unusedVariables false
set_option linter.unusedSimpArgs false
namespace Go.Proofs.Ythlbmjjodjepjaa
open Go.RowKit

/-- Numbers as cells. -/
def iv (l : List Nat) : List Value := l.map fun (x : Nat) => Value.int .i64 (x : Int)
theorem iv_append (l m : List Nat) : iv (l ++ m) = iv l ++ iv m := by simp [iv]
theorem iv_length (l : List Nat) : (iv l).length = l.length := by simp [iv]
theorem iv_one (l : List Nat) : ∀ u ∈ iv l, u.oneCell' = true := by
  intro u hu
  simp only [iv, List.mem_map] at hu
  obtain ⟨q, _, rfl⟩ := hu
  rfl
theorem iv_get (l : List Nat) (i : Nat) (h : i < l.length) : (iv l)[i]? = some (.int .i64 (l[i] : Int)) := by simp [iv, List.getElem?_eq_getElem h]
theorem infoI : (Try.prog.info? 3).map (fun i => (i.zero, i.size, i.bytes)) = some (some (.int .i64 0), 1, 8) := by kernel_rfl

/-- Where each frame ends. -/
def endsOf (l : List (List UInt8)) : List Nat := (List.range l.length).map fun j => (framesOf (plainOf (l.take (j + 1)))).length
theorem endsOf_length (l : List (List UInt8)) : (endsOf l).length = l.length := by simp [endsOf]
theorem endsOf_get (l : List (List UInt8)) (j : Nat) (h : j < (endsOf l).length) : (endsOf l)[j] = (framesOf (plainOf (l.take (j + 1)))).length := by simp [endsOf]
theorem endsOf_snoc (l : List (List UInt8)) (x : List UInt8) : endsOf (l ++ [x]) = endsOf l ++ [(framesOf (plainOf (l ++ [x]))).length] := by
  unfold endsOf
  rw [List.length_append, List.length_singleton, List.range_succ, List.map_append]
  congr 1
  · apply List.map_congr_left
    intro j hj
    have := List.mem_range.1 hj
    rw [List.take_append_of_le_length (by omega)]
  · rw [List.map_singleton, List.take_of_length_le (by simp)]
theorem plainOf_take (l : List (List UInt8)) (m : Nat) : (plainOf l).take m = plainOf (l.take m) := by simp [plainOf, fewsOf, List.map_take]
theorem fewsOf_take (l : List (List UInt8)) (m : Nat) : (fewsOf l).take m = fewsOf (l.take m) := by simp [fewsOf, List.map_take]

/-- What is scanned of frames that are cut off: the first m records; all that ends within is whole. -/
theorem torn_scan (l : List (List UInt8)) (k : Nat) (hk : k ≤ (framesOf (plainOf l)).length) :
    ∃ m, m ≤ l.length ∧ scanOf ((framesOf (plainOf l)).take k) = (fewsOf (l.take m), (framesOf (plainOf (l.take m))).length) ∧
      ∀ (j : Nat) (h : j < (endsOf l).length), ((endsOf l)[j] ≤ k ↔ j < m) := by
  obtain ⟨m, t, h1, h2, h3, h4, h5⟩ := frames_cut (plainOf l) k (plain_small l) hk
  have hpl : (plainOf l).length = l.length := by simp [plainOf, fewsOf]
  rw [hpl] at h1
  rw [plainOf_take] at h2 h4
  refine ⟨m, h1, ?_, fun j h => ?_⟩
  · rw [h2, scan_plain _ t h3]
  · rw [endsOf_get]
    rw [endsOf_length] at h
    constructor
    · intro hle
      by_cases hj : j < m
      · exact hj
      · have := h5 (j + 1) (by omega) (by omega)
        rw [plainOf_take] at this
        omega
    · intro hj
      refine Nat.le_trans ?_ h4
      have e : l.take m = l.take (j + 1) ++ (l.take m).drop (j + 1) := by
        have := (List.take_append_drop (j + 1) (l.take m)).symm
        rwa [List.take_take, Nat.min_eq_left (by omega)] at this
      rw [e]
      simp [plainOf, fewsOf, framesOf]

set_option maxRecDepth 100000 in
set_option maxHeartbeats 8000000 in
theorem walTorn_any (A : Option Addr) (n c : Nat) (L : List (List UInt8)) (cut : Int) (w : World) (hl : L.length = n) (hn : n ≤ 9223372036854775807) (hr : RS w A L) (hc0 : -9223372036854775808 ≤ cut) (hc1 : cut ≤ 9223372036854775807) :
    Calls Try.prog 7 #[.slice A n c, .int .i64 cut] w fun e w' => e = .returned (.bool true) ∧ Below w.heap.size w w' := by
  subst hl
  have HL := Lib.hid hr
  have HC0 := Lib.hid hc0
  have HC1 := Lib.hid hc1
  clear hr hc0 hc1
  go_enter Try.func7, Try.ntmps7
  go_upto_block 0 with fail
  go_cut [5, 6] (fun s5 s6 wx => ∃ (i : Nat) (A5 A6 : Option Addr) (c5 c6 : Nat), i ≤ L.length ∧ i ≤ 12 ∧ (framesOf (plainOf (L.take i))).length ≤ c5 ∧ s5 = .slice A5 (framesOf (plainOf (L.take i))).length c5 ∧ s6 = .slice A6 (endsOf (L.take i)).length c6 ∧
    wx.ownsRow w.heap.size 5 1 (.slice A5 (framesOf (plainOf (L.take i))).length c5) (framesOf (plainOf (L.take i))).length (bv (framesOf (plainOf (L.take i)))) ∧
    wx.ownsRow w.heap.size 3 1 (.slice A6 (endsOf (L.take i)).length c6) (endsOf (L.take i)).length (iv (endsOf (L.take i))) ∧ Below w.heap.size w wx)
  case first =>
    go_wp2_with fail
    go_loopg [5, 6, 7] 12 (fun k s5 s6 s7 wr => ∃ i : Nat, i ≤ L.length ∧ i ≤ 12 ∧ k = 12 - i ∧ s7 = .int .i64 (i : Int) ∧ wr.ownsRow w.heap.size 5 1 s5 (framesOf (plainOf (L.take i))).length (bv (framesOf (plainOf (L.take i)))) ∧
      wr.ownsRow w.heap.size 3 1 s6 (endsOf (L.take i)).length (iv (endsOf (L.take i))) ∧ (∀ k, s5.ownBlock = some k → s6.ownBlock ≠ some k) ∧ Below w.heap.size w wr)
    case atStart => exact ⟨0, Nat.zero_le _, by omega, by omega, rfl, World.ownsRow_nil _ _ _ _, World.ownsRow_nil _ _ _ _, fun k hk => by simp [Value.ownBlock] at hk, Below.refl _ _⟩
    case round =>
      obtain ⟨i, hi, hi20, hk, rfl, ho5, ho6, hne, hb⟩ := hrel
      have HK := Lib.hid hk
      have O5 := Lib.hid ho5
      have O6 := Lib.hid ho6
      have NE := Lib.hid hne
      have HB := Lib.hid hb
      have hsm := frames_small (L.take i)
      have hl1 : (L.take i).length = i := by rw [List.length_take]; omega
      rw [hl1] at hsm
      have HL1 := Lib.hid hl1
      clear hk ho5 ho6 hne hb hl1
      by_cases hlt : i < L.length ∧ i < 12
      · obtain ⟨hlt, hlt20⟩ := hlt
        obtain ⟨bl, ol, rfl, e1⟩ := HL.out.parts (by rw [sv_length]; omega)
        have k1 := cell_below HB.out (e1 i _ (sv_get' L i hlt))
        have HT := Lib.hid (List.take_succ_eq_append_getElem hlt)
        have HI := Lib.hid (strB_toList L[i])
        generalize L[i] = x at *
        generalize L.take i = l0 at *
        clear e1
        have hfl : (endsOf l0).length ≤ 12 := by rw [endsOf_length, HL1.out]; omega
        generalize strB x = sx at *
        go_wp2_with fail
        refine (few_any sx _).mono ?_
        rw [HI.out]
        rintro e w1 ⟨rfl, rfl⟩
        go_wp2_with fail
        refine (frame_any false (strB (x.take 100)) _ (by rw [strB_size, List.length_take]; omega)).mono ?_
        rw [strB_toList]
        rintro e w3 ⟨v8, rfl, ho, hb⟩
        obtain ⟨A8, c8, rfl, _⟩ := own_slice ho
        have O5a := Lib.hid (own_below O5.out hb)
        have O6a := Lib.hid (own_below O6.out hb)
        have O8 := Lib.hid ho
        have HB3 := Lib.hid (below_below HB.out HB.out.size hb)
        have hfr : (frameOf false (x.take 100)).length ≤ 109 := by rw [frameOf_length, List.length_take]; omega
        clear ho hb
        go_wp2_with (at_builtin; refine append_bytes rfl _ _ 37 rfl w.heap.size 5 Try.underlying37 info8 u5 (framesOf (plainOf l0)) rfl O5a.out _ _ _ (frameOf false (x.take 100)) rfl rfl (own_RC O8.out).bytes ?c3 ?c4 ?_)
        case c3 => omega
        case c4 => exact HB3.out.size
        intro v3 w4 ho hg hat
        have hU4 : Upd (fun k => u5.ownBlock = some k) w3 w4 := (Upd.refl _ w3).grown hg (fun k hk _ => hk)
        have O6b := Lib.hid (own_upd O6a.out hU4 (fun k hk h => NE.out k h hk))
        have HB4 := Lib.hid (below_upd HB3.out HB3.out.size hU4 (fun k hk => (World.ownsRow.lt O5a.out k hk).1))
        have hne3 : ∀ k, v3.ownBlock = some k → u6.ownBlock ≠ some k := by
          intro k hk e
          rcases hat with h | h
          · exact NE.out k (h ▸ hk) e
          · rw [h] at hk; cases hk; have := (World.ownsRow.lt O6a.out _ e).2; omega
        have NE3 := Lib.hid hne3
        have hlen4 : (framesOf (plainOf (l0 ++ [x]))).length = (framesOf (plainOf l0)).length + (frameOf false (x.take 100)).length := by rw [plainOf_snoc, framesOf_snoc, List.length_append]
        have ho5b : w4.ownsRow w.heap.size 5 1 v3 (framesOf (plainOf (l0 ++ [x]))).length (bv (framesOf (plainOf (l0 ++ [x])))) := by
          rw [hlen4, plainOf_snoc, framesOf_snoc]
          exact ho
        obtain ⟨A3, c3, rfl, _⟩ := own_slice ho
        have O5b := Lib.hid ho5b
        have HE := Lib.hid (endsOf_snoc l0 x)
        have HLE := Lib.hid hlen4
        clear ho hg hat hU4 ho5b hne3
        rw [hlen4] at HE
        have hl4 : (framesOf (plainOf l0)).length + (frameOf false (x.take 100)).length ≤ 2000 := by omega
        clear hlen4
        generalize hyy : (framesOf (plainOf l0)).length + (frameOf false (x.take 100)).length = yy at *
        have HYY := Lib.hid hyy
        clear hyy
        go_wp2_with (at_builtin; refine append_any rfl _ _ 47 rfl w.heap.size 3 (.int .i64 0) 1 8 Try.underlying47 infoI rfl (by omega) (by omega) u6 (endsOf l0).length (iv (endsOf l0)) rfl (O6b.out.alloc _) _ 1 _ (iv [yy]) rfl rfl (RC_newL w4 (iv [yy]) 3) (iv_one _) ?c1 ?c2 ?_)
        case c1 => omega
        case c2 => have := HB4.out.size; simp; omega
        intro v6 w5 ho hg hat
        have hU5 : Upd (fun k => u6.ownBlock = some k) w4 w5 := ((Upd.refl _ w4).alloc _).grown hg (fun k hk _ => hk)
        have O5c := Lib.hid (own_upd O5b.out hU5 (fun k hk h => NE3.out k hk h))
        have NE6 := Lib.hid (show ∀ k, (Value.slice A3 yy c3).ownBlock = some k → v6.ownBlock ≠ some k by
          intro k hk e
          rcases hat with h | h
          · exact NE3.out k hk (h ▸ e)
          · rw [h] at e; simp at e; have := (World.ownsRow.lt O5b.out k hk).2; omega)
        have HB5 := Lib.hid (below_upd HB4.out HB4.out.size hU5 (fun k hk => (World.ownsRow.lt O6b.out k hk).1))
        have O6c := Lib.hid (show w5.ownsRow w.heap.size 3 1 v6 (endsOf (l0 ++ [x])).length (iv (endsOf (l0 ++ [x]))) by
          rw [HE.out, List.length_append, iv_append]
          exact ho)
        clear ho hg hat hU5
        go_wp2_with fail
        go_roundg (12 - (i + 1))
        case measure => have := HK.out; omega
        case rel => exact ⟨i + 1, by omega, by omega, rfl, by go_num, by rw [HT.out]; exact O5c.out, by rw [HT.out]; exact O6c.out, NE6.out, HB5.out⟩
      · have HD2 := Lib.hid (show ¬ (i < L.length) ∨ ¬ (i < 12) by omega)
        obtain ⟨A5, c5, rfl, hc5⟩ := own_slice O5.out
        obtain ⟨A6, c6, rfl, _⟩ := own_slice O6.out
        have HII := Lib.hid hi
        have HI20 := Lib.hid hi20
        have HC5 := Lib.hid hc5
        clear hlt hi hsm hi20 HK hc5
        by_cases hA : i < L.length
        · have h20 : decide ((i : Int) < 12) = false := by have := HD2.out; simp; omega
          go_wp2_with fail
          go_meet
          exact ⟨i, A5, A6, c5, c6, HII.out, HI20.out, HC5.out, rfl, rfl, O5.out, O6.out, HB.out⟩
        · have hA' : decide ((i : Int) < (L.length : Int)) = false := by simp; omega
          go_wp2_with fail
          go_meet
          exact ⟨i, A5, A6, c5, c6, HII.out, HI20.out, HC5.out, rfl, rfl, O5.out, O6.out, HB.out⟩
  case rest =>
    obtain ⟨i, A5, A6, c5, c6, hi, hi12, hc5, rfl, rfl, ho5, ho6, hb⟩ := hcut
    have O5 := Lib.hid ho5
    have O6 := Lib.hid ho6
    have HB := Lib.hid hb
    have HSM := Lib.hid (frames_small (L.take i))
    have HLI := Lib.hid (show (L.take i).length = i by rw [List.length_take]; omega)
    have HTT := Lib.hid (show ∀ j, j < i → (L.take i)[j]? = L[j]? by
      intro j hj
      rw [List.getElem?_take, if_pos hj])
    generalize L.take i = l0 at *
    have hfl : (framesOf (plainOf l0)).length ≤ 2000 := by have := HSM.out; have := HLI.out; omega
    have HTS := Lib.hid (torn_scan l0)
    have hel : (endsOf l0).length = i := by rw [endsOf_length, HLI.out]
    have HEL := Lib.hid hel
    clear ho5 ho6 hb
    go_wp2_with fail
    refine (within_any cut 0 _ _ (by omega) (by omega) (by omega) (by omega)).mono ?_
    rintro e w1 ⟨rfl, rfl⟩
    have hw := withinOf_range cut 0 ((framesOf (plainOf l0)).length : Int) (by omega)
    obtain ⟨k, hk⟩ := Int.eq_ofNat_of_zero_le hw.1
    rw [hk]
    have hkl : k ≤ (framesOf (plainOf l0)).length := by omega
    obtain ⟨m, hm, hsc, hends⟩ := HTS.out k hkl
    obtain ⟨F, eF⟩ : ∃ F, F = fewsOf (l0.take m) := ⟨_, rfl⟩
    obtain ⟨D, eD⟩ : ∃ D, D = (framesOf (plainOf (l0.take m))).length := ⟨_, rfl⟩
    rw [← eF, ← eD] at hsc
    have hFm : F.length = m := by rw [eF, fewsOf_length, List.length_take]; omega
    have HFM := Lib.hid hFm
    have HF := Lib.hid eF
    have HD := Lib.hid eD
    clear eF eD
    have HSC := Lib.hid hsc
    have HEN := Lib.hid hends
    have HM := Lib.hid hm
    have hkc : (k : Int) ≤ (c5 : Int) := by omega
    have HKL := Lib.hid hkl
    clear hw hk hsc hends hm hkl
    go_wp2_with fail
    refine (scan_any A5 k c5 ((framesOf (plainOf l0)).take k) _ (by have := HKL.out; rw [List.length_take]; omega) (by have := HKL.out; omega) (by have := HKL.out; omega) (RB_take (own_RC O5.out).bytes k)).mono ?_
    rw [HSC.out]
    rintro e w2 ⟨v9, rfl, ho, hb⟩
    obtain ⟨A9, c9, rfl, _⟩ := own_slice ho
    have O9 := Lib.hid ho
    have O6a := Lib.hid (own_below O6.out hb)
    have HB2 := Lib.hid (below_below HB.out HB.out.size hb)
    clear ho hb
    have hmi : m ≤ i := by have := HM.out; have := HLI.out; omega
    have hmi12 : m ≤ 12 := by omega
    go_wp2_with fail
    go_loopg [11, 12] i (fun q s11 s12 wr => ∃ j : Nat, j ≤ i ∧ q = i - j ∧ s12 = .int .i64 (j : Int) ∧ s11 = .int .i64 ((min j m : Nat) : Int) ∧ wr = w2)
    case atStart => exact ⟨0, Nat.zero_le _, by omega, rfl, by rw [Nat.zero_min]; rfl, rfl⟩
    case round =>
      obtain ⟨j, hj, hq, rfl, rfl, rfl⟩ := hrel
      have HQ := Lib.hid hq
      clear hq
      by_cases hlt : j < i
      · have hje : j < (endsOf l0).length := by rw [HEL.out]; exact hlt
        obtain ⟨b6, o6, rfl, hc6⟩ := (own_RC O6a.out).parts (by rw [iv_length]; omega)
        have k6 := hc6 j _ (iv_get _ j hje)
        have hiff := HEN.out j hje
        generalize (endsOf l0)[j] = ej at *
        clear hc6
        have HJE := Lib.hid hje
        have HLT := Lib.hid hlt
        clear hje
        by_cases hjm : j < m
        · have hle : (ej : Int) ≤ (k : Int) := by have := hiff.2 hjm; omega
          obtain ⟨y, hy⟩ : ∃ y : Nat, y = min j m := ⟨_, rfl⟩
          rw [← hy]
          have HY := Lib.hid (show min (j + 1) m = j + 1 by omega)
          clear hiff hjm hy
          go_wp2_with fail
          go_roundg (i - (j + 1))
          case measure => have := HQ.out; have := HLT.out; omega
          case rel => exact ⟨j + 1, HLT.out, rfl, by go_num, by rw [HY.out]; go_num, rfl⟩
        · have hle : ¬ ((ej : Int) ≤ (k : Int)) := by
            intro h
            exact hjm (hiff.1 (by omega))
          obtain ⟨y, hy⟩ : ∃ y : Nat, y = min j m := ⟨_, rfl⟩
          rw [← hy]
          have HY := Lib.hid (show min (j + 1) m = y by omega)
          clear hiff hjm hy
          go_wp2_with fail
          go_roundg (i - (j + 1))
          case measure => have := HQ.out; have := HLT.out; omega
          case rel => exact ⟨j + 1, HLT.out, rfl, by go_num, by rw [HY.out], rfl⟩
      · obtain rfl : j = i := by omega
        rw [Nat.min_eq_right hmi]
        clear hlt hj HQ
        go_upto_region 16 with fail
        go_cut [10, 11, 86] (fun s10 s11 s86 wx => s10 = .int .i64 (D : Int) ∧ s11 = .int .i64 (m : Int) ∧ s86 = .bool false ∧ wr = wx)
        case first =>
          by_cases hm0 : m = 0
          · subst hm0
            have hD0 : D = 0 := by rw [HD.out]; rfl
            subst hD0
            go_wp2_with fail
            go_meet
            exact ⟨rfl, rfl, rfl, rfl⟩
          · obtain ⟨m', rfl⟩ : ∃ m', m = m' + 1 := ⟨m - 1, by omega⟩
            have hje : m' < (endsOf l0).length := by rw [HEL.out]; omega
            obtain ⟨b6, o6, rfl, hc6⟩ := (own_RC O6a.out).parts (by rw [iv_length]; omega)
            have k6 := hc6 m' _ (iv_get _ m' hje)
            have hDe : (endsOf l0)[m'] = D := by rw [endsOf_get, HD.out]
            rw [hDe] at k6
            have hmp : (0 : Int) < (m' : Int) + 1 := by omega
            have hm0' : ((m' : Int) + 1 == 0) = false := by rw [beq_eq_false_iff_ne]; omega
            clear hc6 hDe hje hm0
            go_wp2_with fail
            go_meet
            exact ⟨rfl, by go_num, rfl, rfl⟩
        case rest =>
          obtain ⟨rfl, rfl, rfl, rfl⟩ := hcut
          go_wp2_with fail
          go_loopg [13] m (fun q s13 wx => ∃ j : Nat, j ≤ m ∧ q = m - j ∧ s13 = .int .i64 (j : Int) ∧ Below w.heap.size w wx ∧ Below wr.heap.size wr wx)
          case atStart => exact ⟨0, Nat.zero_le _, by omega, rfl, HB2.out, Below.refl _ _⟩
          case round =>
            obtain ⟨j, hj, hq, rfl, hb, hb'⟩ := hrel
            have HQ := Lib.hid hq
            have HBx := Lib.hid hb
            have HBy := Lib.hid hb'
            clear hq hb hb'
            by_cases hlt : j < m
            · have hjL : j < L.length := by omega
              have hjl : j < l0.length := by rw [HLI.out]; omega
              have hjF : j < F.length := by rw [HFM.out]; exact hlt
              obtain ⟨b9, o9, rfl, h9⟩ := (own_RC O9.out).parts (by rw [sv_length]; omega)
              obtain ⟨bl, ol, rfl, hL9⟩ := HL.out.parts (by rw [sv_length]; omega)
              have e1 : l0[j] = L[j] := by
                have h := HTT.out j (by omega)
                rw [List.getElem?_eq_getElem hjl, List.getElem?_eq_getElem hjL] at h
                exact Option.some.inj h
              have e2 : F[j] = (L[j]).take 100 := by
                have h : F[j]? = some ((L[j]).take 100) := by
                  rw [HF.out, fewsOf, List.getElem?_map, List.getElem?_take, if_pos hlt, List.getElem?_eq_getElem hjl, e1]
                  rfl
                rw [List.getElem?_eq_getElem hjF] at h
                exact Option.some.inj h
              have k9 := cell_below HBy.out (h9 j _ (sv_get' F j hjF))
              have kL := cell_below HBx.out (hL9 j _ (sv_get' L j hjL))
              rw [e2] at k9
              have HI := Lib.hid (strB_toList L[j])
              generalize L[j] = x at *
              generalize strB x = sx at *
              generalize hz : strB (x.take 100) = z at *
              have HZ := Lib.hid hz
              have HLT := Lib.hid hlt
              have hj0 : (0 : Int) ≤ (j : Int) := by omega
              have hj1 : (j : Int) < (m : Int) := by omega
              have hj2 : (j : Int) < (L.length : Int) := by omega
              clear e1 e2 h9 hL9 hz hjL hjl hjF hlt hj
              go_upto_region 21 with fail
              go_region_law (refine op_call #[.string sx] (by simp [Region.wanted]) rfl Try.func31 (by kernel_rfl) rfl (by simp [Act.eval, Act.put]) ?_; refine (few_any sx _).mono ?_; rw [HI.out, HZ.out]; rintro e w8 ⟨rfl, rfl⟩; refine ⟨_, rfl, ?_⟩)
              all_goals
                go_wp2_with fail
                go_roundg (m - (j + 1))
                case measure => have := HQ.out; have := HLT.out; omega
                case rel => exact ⟨j + 1, HLT.out, rfl, by go_num, HBx.out.drew, HBy.out.drew⟩
            · obtain rfl : j = m := by omega
              clear hlt hj HQ
              go_wp2_with fail
              refine (known6_any _).mono ?_
              rintro e w5 ⟨rfl, hb⟩
              have HB5 := Lib.hid (below_below HBx.out HBx.out.size hb)
              clear hb
              go_wp2_with fail
              go_ret
              exact ⟨rfl, HB5.out⟩

end Go.Proofs.Ythlbmjjodjepjaa
