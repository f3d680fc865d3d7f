/-
  The walk of the law NetOrder.
-/
import Derived.Test.YtkpkimhpecbkoaaKnown5
import Derived.BigQuiet
import Derived.Deep.QuietTactic
set_option linter.unusedVariables false
set_option linter.unusedSimpArgs false
namespace Go.Proofs.Ytkpkimhpecbkoaa
open Go.RowKit

theorem data_eq (s : ByteArray) : (⟨s.data.toList.toArray⟩ : ByteArray) = s := by
  cases s
  simp
/-- What was sent ahead of i. -/
def ordL (L : List ByteArray) : List Pl := L.mapIdx fun j s => (((j : Int) % 2), (1 : Int), s.data.toList)
theorem ordL_length (L : List ByteArray) : (ordL L).length = L.length := by simp [ordL]
theorem ordL_snoc (L : List ByteArray) (s : ByteArray) : ordL (L ++ [s]) = ordL L ++ [(((L.length : Int) % 2), 1, s.data.toList)] := by simp [ordL, List.mapIdx_append]
theorem ordL_get (L : List ByteArray) (i : Nat) (h : i < L.length) : (ordL L)[i]? = some (((i : Int) % 2), 1, L[i].data.toList) := by simp [ordL, h]
theorem erase_zero {α : Type} (l : List α) (i : Nat) (h : i < l.length) : (l.drop i).eraseIdx 0 = l.drop (i + 1) := by
  rw [List.drop_eq_getElem_cons h]
  rfl
theorem erase_last {α : Type} (l : List α) (i : Nat) (h : i < l.length) : (l.take (i + 1)).eraseIdx i = l.take i := by
  rw [List.eraseIdx_eq_take_drop_succ, List.take_take, List.drop_of_length_le (by rw [List.length_take]; omega), List.append_nil]
  congr 1
  omega
theorem placeOf_nat (i n : Nat) (h : i < n) : placeOf (i : Int) n = i := by
  unfold placeOf
  rw [if_neg (by omega), Int.toNat_natCast, Nat.mod_eq_of_lt h]

set_option maxRecDepth 100000 in
set_option maxHeartbeats 16000000 in
theorem netOrder_any (A : Option Addr) (n c : Nat) (L0 : List ByteArray) (behind : Bool) (w : World) (hl : L0.length = n) (hnc : n ≤ c) (hn : n ≤ 9223372036854775807) (hcm : c ≤ 9223372036854775807) (hr : RC w A (L0.map Value.string)) (hsz : ∀ s ∈ L0, s.size ≤ 140737488351232) :
    Calls Try.prog 10 #[.slice A n c, .bool behind] w fun e w' => e = .returned (.bool true) ∧ Below w.heap.size w w' := by
  subst hl
  have HL := Lib.hid hr
  have HS := Lib.hid hsz
  clear hr hsz
  go_enter Try.func10, Try.ntmps10
  go_wp2_with fail
  refine (netNew_any 2 _ (by omega) (by omega)).mono ?_
  rintro e w1 ⟨rfl, hn1, hb1⟩
  have N1 := Lib.hid (show Nt w1 w.heap.size w.heap.size (.slice none 0 0) 2 0 (ordL []) from ⟨[], hn1, rfl⟩)
  have B1 := Lib.hid hb1
  clear hn1 hb1
  go_upto_if 25 with fail
  go_cut [0] (fun s0 wx => ∃ (m : Nat) (L : List ByteArray), L.length = m ∧ m ≤ 50 ∧ m ≤ c ∧ RC w A (L.map Value.string) ∧ (∀ s ∈ L, s.size ≤ 140737488351232) ∧ s0 = .slice A m c ∧ w1 = wx)
  case first =>
    go_wp2_with fail
    · go_meet
      refine ⟨50, L0.take 50, by rw [List.length_take]; omega, by omega, by omega, ?_, fun s hs => HS.out s (List.mem_of_mem_take hs), rfl, rfl⟩
      rw [List.map_take]
      intro h0
      obtain ⟨ad, e, h⟩ := HL.out (by rw [List.length_take] at h0; omega)
      exact ⟨ad, e, fun j u hj => h j u (by rw [List.getElem?_take] at hj; split at hj; exact hj; cases hj)⟩
    · go_meet
      exact ⟨L0.length, L0, rfl, by omega, by omega, HL.out, HS.out, rfl, rfl⟩
  case rest =>
    obtain ⟨m, L, hlm, hm, hmc, hr1, hs1, rfl, rfl⟩ := hcut
    subst hlm
    have HR := Lib.hid hr1
    have HZ := Lib.hid hs1
    have kb := fun s W => Lib.run_convert_string_bytes (P := Try.prog) W 9 41 5 s Try.underlying9 Try.underlying41 Try.underlying5
    clear hr1 hs1 HL HS
    go_wp2_with fail
    go_loopg [7] L.length (fun k s7 wr => ∃ (i : Nat) (v : Value), i ≤ L.length ∧ k = L.length - i ∧ s7 = .int .i64 (i : Int) ∧ Nt wr w.heap.size w.heap.size v 2 (i : Int) (ordL (L.take i)) ∧ Below w.heap.size w wr)
    case atStart => exact ⟨0, _, Nat.zero_le _, by omega, rfl, N1.out, B1.out⟩
    case round =>
      obtain ⟨i, v, hi, hk, rfl, hn, hb⟩ := hrel
      have HK := Lib.hid hk
      have HN := Lib.hid hn
      have HB := Lib.hid hb
      clear hk hn hb N1 B1
      by_cases hlt : i < L.length
      · obtain ⟨b0, o0, rfl, r0⟩ := HR.out.parts (by simp; omega)
        have k0 := cell_below HB.out (r0 i _ (by rw [List.getElem?_map, List.getElem?_eq_getElem hlt]; rfl))
        have HT := Lib.hid (List.take_succ_eq_append_getElem hlt)
        have HSI := Lib.hid (HZ.out L[i] (List.getElem_mem hlt))
        obtain ⟨z, hz⟩ : ∃ z, z = L[i] := ⟨_, rfl⟩
        rw [← hz] at k0 HT HSI
        clear r0 hz
        have i0 : (0 : Int) ≤ (i : Int) := by omega
        have i1 : (i : Int) < (L.length : Int) := by omega
        have HLT := Lib.hid hlt
        clear hlt
        go_wp2_with fail
        have hN := HN.out.below (bytes_below (Below.refl wr.heap.size wr) (Nat.le_refl _) 5 z)
        have hll : (ordL (L.take i)).length = i := by rw [ordL_length, List.length_take]; have := HLT.out; omega
        refine (send_plain hN ((i : Int) % 2) 1 (some ⟨wr.heap.size, 0, none⟩) z.size _ z.data.toList (data_length z) (by rw [data_length]; have := HSI.out; omega) (bytes_RB _ _ _) (fun h => by cases h) (by omega) (by omega) (by omega) (by omega) (by rw [hll]; have := HLT.out; omega) (by omega) (by omega)).mono ?_
        rintro e w3 ⟨v3, rfl, ht3⟩
        have N3 := Lib.hid (show Nt w3 w.heap.size w.heap.size v3 2 ((i + 1 : Nat) : Int) (ordL (L.take (i + 1))) by
          rw [HT.out, ordL_snoc]
          have := ht3.net
          have e : (L.take i).length = i := by rw [List.length_take]; have := HLT.out; omega
          rw [e]
          exact this)
        have B3 := Lib.hid (hN.goes (bytes_below HB.out HB.out.size 5 z) ht3.upd)
        clear ht3 hN hll
        go_wp2_with fail
        go_roundg (L.length - (i + 1))
        case measure => have := HK.out; have := HLT.out; omega
        case rel => exact ⟨i + 1, v3, HLT.out, rfl, by go_num, N3.out, B3.out⟩
      · have hge : L.length ≤ i := by omega
        have hdec : decide (i < L.length) = false := decide_eq_false (by omega)
        have hN0 := HN.out
        rw [show i = L.length by omega, List.take_length] at hN0
        have HN0 := Lib.hid hN0
        clear hN0 hlt
        go_wp2_with fail
        go_loopg [8] L.length (fun k s8 wx => ∃ (q : Nat) (v : Value), q ≤ L.length ∧ k = L.length - q ∧ s8 = .int .i64 (q : Int) ∧ Nt wx w.heap.size w.heap.size v 2 (L.length : Int) (if behind then (ordL L).take (L.length - q) else (ordL L).drop q) ∧ Below w.heap.size w wx)
        case atStart => exact ⟨0, v, Nat.zero_le _, by omega, rfl, by cases behind <;> simpa [List.take_of_length_le, ordL_length] using HN0.out, HB.out⟩
        case round =>
          obtain ⟨q, v, hq, hk2, rfl, hn2, hb2⟩ := hrel
          have HK2 := Lib.hid hk2
          have HN2 := Lib.hid hn2
          have HB2 := Lib.hid hb2
          clear hk2 hn2 hb2 HN HN0 HB HK
          by_cases hlt : q < L.length
          · cases behind
            · have hl0 : ((ordL L).drop q).length = L.length - q := by rw [List.length_drop, ordL_length]
              have hp0 : placeOf 0 ((ordL L).drop q).length = 0 := by rw [hl0]; exact placeOf_nat 0 _ (by omega)
              have HNX := Lib.hid (show Nt wr w.heap.size w.heap.size v 2 (L.length : Int) ((ordL L).drop q) from HN2.out)
              have HBX := Lib.hid HB2.out
              obtain ⟨z, hz⟩ : ∃ z, z = L[q] := ⟨_, rfl⟩
              have HZT := Lib.hid hz
              have hq2 : ((ordL L).drop q)[placeOf 0 ((ordL L).drop q).length]? = some (((q : Int) % 2), 1, z.data.toList) := by
                rw [hp0, List.getElem?_drop, Nat.add_zero, ordL_get L q hlt, ← hz]
              have HQ2 := Lib.hid hq2
              have HP0 := Lib.hid hp0
              obtain ⟨b0, o0, rfl, r0⟩ := HR.out.parts (by simp; omega)
              clear hl0 hq2 hp0 hz
              go_wp2_with fail
              refine (take_plain HNX.out 0 ((q : Int) % 2) 1 z.data.toList HQ2.out (by omega) (by omega)).mono ?_
              rw [HP0.out]
              rintro e w5 ⟨A5, c5, v5, rfl, ht5, hv5, hg5⟩
              have N5 := Lib.hid (show Nt w5 w.heap.size w.heap.size v5 2 (L.length : Int) ((ordL L).drop (q + 1)) by
                have := ht5.net
                rw [erase_zero _ q (by rw [ordL_length]; omega)] at this
                exact this)
              have B5 := Lib.hid (HNX.out.goes HBX.out ht5.upd)
              have D5 := Lib.hid hg5.body.r
              clear ht5 hv5 hg5
              rw [data_length]
              go_upto_region 20 with fail
              obtain ⟨W, hW⟩ : ∃ W, W = w5.alloc (.cells #[.int .i64 ((q : Int) % 2), .int .i64 1, .slice A5 z.size c5] 47) := ⟨_, rfl⟩
              have bel : Below w5.heap.size w5 W := by rw [hW]; exact (Below.refl _ _).alloc (Nat.le_refl _) _
              have hWc : W.heap[w5.heap.size]? = some (.cells #[.int .i64 ((q : Int) % 2), .int .i64 1, .slice A5 z.size c5] 47 (0, 0)) := by rw [hW]; exact heap_alloc_new _ _
              have y0 : W.cell? ⟨w5.heap.size, 0, none⟩ = some (.int .i64 ((q : Int) % 2)) := (cell_of_row W _ 0 _ _ _ hWc).trans rfl
              have y1 : W.cell? ⟨w5.heap.size, 1, none⟩ = some (.int .i64 1) := (cell_of_row W _ 1 _ _ _ hWc).trans rfl
              have y2 : W.cell? ⟨w5.heap.size, 2, none⟩ = some (.slice A5 z.size c5) := (cell_of_row W _ 2 _ _ _ hWc).trans rfl
              have s1 := fun W' (h : RB W' A5 z.data.toList) => run_string_RB (P := Try.prog) W' 41 9 5 Try.underlying41 Try.underlying5 Try.underlying9 A5 z.size c5 z.data.toList (data_length z) h
              rw [data_eq] at s1
              have hd := D5.out.below bel
              have s2 := fun k => s1 (W.drewN k) (hd.step fun _ _ h => h)
              have B6 := Lib.hid (below_below B5.out B5.out.size bel)
              have N6 := Lib.hid (N5.out.below bel)
              have k0 := cell_below B6.out (r0 q _ (by rw [List.getElem?_map, List.getElem?_eq_getElem (by omega)]; rfl))
              rw [← HZT.out] at k0
              rw [← hW]
              have t0 : (0 : Int) ≤ (q : Int) := by omega
              have t1 : (q : Int) < (L.length : Int) := by omega
              clear hW bel hWc hd s1 r0
              go_quiet (fail)
              have NB : Below W.heap.size W (W.drewN nq) := ⟨rfl, rfl, rfl, Nat.le_refl _, fun _ _ => rfl⟩
              have N7 := Lib.hid (N6.out.below NB)
              have B7 := Lib.hid (below_below B6.out B6.out.size NB)
              clear NB
              go_wp2_with fail
              go_roundg (L.length - (q + 1))
              case measure => have := HK2.out; omega
              case rel => exact ⟨q + 1, v5, by omega, rfl, by go_num, N7.out, B7.out⟩
            · obtain ⟨p, hp⟩ : ∃ p, L.length = p + 1 + q := ⟨L.length - 1 - q, by omega⟩
              have HP := Lib.hid hp
              have hpl : p < L.length := by omega
              have hl0 : ((ordL L).take (p + 1)).length = p + 1 := by rw [List.length_take, ordL_length]; omega
              have hp0 : placeOf (p : Int) (p + 1) = p := placeOf_nat p _ (by omega)
              have HN3 := Lib.hid (show Nt wr w.heap.size w.heap.size v 2 (L.length : Int) ((ordL L).take (p + 1)) by
                have := HN2.out
                rw [show L.length - q = p + 1 by omega] at this
                exact this)
              obtain ⟨z, hz⟩ : ∃ z, z = L[p] := ⟨_, rfl⟩
              have HZT := Lib.hid hz
              have HQ2 := Lib.hid (show ((ordL L).take (p + 1))[p]? = some (((p : Int) % 2), 1, z.data.toList) by
                rw [List.getElem?_take, if_pos (by omega), ordL_get L p hpl, ← hz])
              have HL0 := Lib.hid hl0
              have HP0 := Lib.hid hp0
              obtain ⟨b0, o0, rfl, r0⟩ := HR.out.parts (by simp; omega)
              have hq : q ≤ L.length := by omega
              clear hl0 hp0 hz hp
              go_wp2_with fail
              refine (pending_plain HN3.out).mono ?_
              rintro e w4 ⟨x4, M4, rfl, hm4, ho4, hf4, hb4⟩
              obtain ⟨A4, c4, rfl, _⟩ := own_slice ho4
              rw [HL0.out]
              have HNX := Lib.hid (HN3.out.below hb4)
              have HBX := Lib.hid (below_below HB2.out HB2.out.size hb4)
              clear hm4 ho4 hf4 hb4
              go_wp2_with fail
              rw [show (L.length : Int) - 1 - (q : Int) = (p : Int) by have := HP.out; omega]
              refine (take_plain HNX.out p ((p : Int) % 2) 1 z.data.toList (by rw [HL0.out, HP0.out]; exact HQ2.out) (by omega) (by omega)).mono ?_
              rw [HL0.out, HP0.out]
              rintro e w5 ⟨A5, c5, v5, rfl, ht5, hv5, hg5⟩
              have N5 := Lib.hid (show Nt w5 w.heap.size w.heap.size v5 2 (L.length : Int) ((ordL L).take p) by
                have := ht5.net
                rw [erase_last _ p (by rw [ordL_length]; omega)] at this
                exact this)
              have B5 := Lib.hid (HNX.out.goes HBX.out ht5.upd)
              have D5 := Lib.hid hg5.body.r
              clear ht5 hv5 hg5
              rw [data_length]
              go_upto_region 20 with fail
              obtain ⟨W, hW⟩ : ∃ W, W = w5.alloc (.cells #[.int .i64 ((p : Int) % 2), .int .i64 1, .slice A5 z.size c5] 47) := ⟨_, rfl⟩
              have bel : Below w5.heap.size w5 W := by rw [hW]; exact (Below.refl _ _).alloc (Nat.le_refl _) _
              have hWc : W.heap[w5.heap.size]? = some (.cells #[.int .i64 ((p : Int) % 2), .int .i64 1, .slice A5 z.size c5] 47 (0, 0)) := by rw [hW]; exact heap_alloc_new _ _
              have y0 : W.cell? ⟨w5.heap.size, 0, none⟩ = some (.int .i64 ((p : Int) % 2)) := (cell_of_row W _ 0 _ _ _ hWc).trans rfl
              have y1 : W.cell? ⟨w5.heap.size, 1, none⟩ = some (.int .i64 1) := (cell_of_row W _ 1 _ _ _ hWc).trans rfl
              have y2 : W.cell? ⟨w5.heap.size, 2, none⟩ = some (.slice A5 z.size c5) := (cell_of_row W _ 2 _ _ _ hWc).trans rfl
              have s1 := fun W' (h : RB W' A5 z.data.toList) => run_string_RB (P := Try.prog) W' 41 9 5 Try.underlying41 Try.underlying5 Try.underlying9 A5 z.size c5 z.data.toList (data_length z) h
              rw [data_eq] at s1
              have hd := D5.out.below bel
              have s2 := fun k => s1 (W.drewN k) (hd.step fun _ _ h => h)
              have B6 := Lib.hid (below_below B5.out B5.out.size bel)
              have N6 := Lib.hid (N5.out.below bel)
              have k0 := cell_below B6.out (r0 p _ (by rw [List.getElem?_map, List.getElem?_eq_getElem (by omega)]; rfl))
              rw [← HZT.out] at k0
              rw [← hW]
              have t0 : (0 : Int) ≤ (p : Int) := by omega
              have t1 : (p : Int) < (L.length : Int) := by omega
              clear hW bel hWc hd s1 r0
              go_quiet (fail)
              have NB : Below W.heap.size W (W.drewN nq) := ⟨rfl, rfl, rfl, Nat.le_refl _, fun _ _ => rfl⟩
              have N7 := Lib.hid (N6.out.below NB)
              have B7 := Lib.hid (below_below B6.out B6.out.size NB)
              clear NB
              go_wp2_with fail
              go_roundg (L.length - (q + 1))
              case measure => have := HK2.out; omega
              case rel => exact ⟨q + 1, v5, by omega, rfl, by go_num, (by rw [show L.length - (q + 1) = p by have := HP.out; omega]; exact N7.out), B7.out⟩
          · have hge2 : L.length ≤ q := by omega
            have hemp : (if behind then (ordL L).take (L.length - q) else (ordL L).drop q) = [] := by
              cases behind
              · exact List.drop_of_length_le (by rw [ordL_length]; exact hge2)
              · show (ordL L).take _ = []
                rw [show L.length - q = 0 by omega, List.take_zero]
            have HN4 := Lib.hid (show Nt wr w.heap.size w.heap.size v 2 (L.length : Int) [] by rw [← hemp]; exact HN2.out)
            clear hemp hlt
            go_wp2_with fail
            refine (pending_plain HN4.out).mono ?_
            rintro e w7 ⟨x, M, rfl, hm, ho, hf, hb⟩
            obtain ⟨A7, c7, rfl, _⟩ := own_slice ho
            have B7 := Lib.hid (below_below HB2.out HB2.out.size hb)
            have N7 := Lib.hid (HN4.out.below hb)
            clear hm ho hf hb
            go_wp2_with fail
            refine (sent_plain N7.out).mono ?_
            rintro e w8 ⟨rfl, rfl⟩
            go_wp2_with fail
            refine (known5_any _).mono ?_
            rintro e w8 ⟨rfl, hb⟩
            have B8 := Lib.hid (below_below B7.out B7.out.size hb)
            clear hb
            go_wp2_with fail
            go_ret
            exact ⟨rfl, B8.out⟩

end Go.Proofs.Ytkpkimhpecbkoaa
