/-
  The walk of the law NetSent.
-/
import Derived.Test.YtkpkimhpecbkoaaKnown5
import Derived.Test.YtkpkimhpecbkoaaAskNet
import Derived.Test.YtkpkimhpecbkoaaBlock
import Derived.Great.Walk
set_option linter.unusedVariables false
set_option linter.unusedSimpArgs false
namespace Go.Proofs.Ytkpkimhpecbkoaa
open Go.RowKit

/-- A block of another type is none of the net's. -/
theorem Nt.apart {w : World} {B p tb : Nat} {v : Value} {nodes sent : Int} {l : List Pl} {t : TypeId} {xs : List Value} (h : Nt w B p v nodes sent l) (ha : Arr w tb t xs) (h1 : t ≠ 74) (h2 : t ≠ 47) : ¬ nfoot p v tb := by
  obtain ⟨L, h, _⟩ := h
  have ha' : w.heap[tb]? = some (.cells xs.toArray t) := ha
  rintro (rfl | hk)
  · have := h.at_
    rw [ha'] at this
    simp only [Option.some.injEq, Obj.cells.injEq] at this
    exact h1 this.2.1
  · rcases h.own.2 with ⟨rfl, _⟩ | ⟨g, cap, cur, rfl, _, hg, _⟩
    · cases hk
    · cases hk
      rw [ha'] at hg
      simp only [Option.some.injEq, Obj.cells.injEq] at hg
      exact h2 hg.2.1
theorem Nt.set_arr {w : World} {B p tb j : Nat} {v y : Value} {nodes sent : Int} {l : List Pl} {t : TypeId} {xs : List Value} (h : Nt w B p v nodes sent l) (ha : Arr w tb t xs) (h1 : t ≠ 74) (h2 : t ≠ 47)
    (hx : ∀ u ∈ xs, ∀ q, u ≠ .int .u8 q) : Nt (w.setCell ⟨tb, j, none⟩ y) B p v nodes sent l := by
  have hap := h.apart ha h1 h2
  obtain ⟨L, h, e⟩ := h
  refine ⟨L, h.upd (F := fun k => k = tb) ((Upd.refl (fun k => k = tb) w).setCell (p := ⟨tb, j, none⟩) (fun _ => rfl) y) (fun k hk e2 => hap (e2 ▸ hk)) (fun m hm h0 ad e2 hk => ?_), e⟩
  obtain ⟨bb, o, e3, hc⟩ := RB.parts (h.body m hm).1.r h0
  rw [e2] at e3
  have e4 : ad = ⟨bb, o, none⟩ := Option.some.inj e3
  subst e4
  have hk' : bb = tb := hk
  subst hk'
  have h3 := hc 0 h0
  have ha' : w.heap[bb]? = some (.cells xs.toArray t) := ha
  rw [cell_of_row w bb (o + 0) xs.toArray t (0, 0) ha'] at h3
  have h4 : xs[o + 0]? = some (.int .u8 (un8 (m.b[0]'h0))) := by simpa using h3
  exact hx _ (List.mem_of_getElem? h4) _ rfl

def msgJ (j : Nat) : Pl := ((1 : Int), (2 : Int), [UInt8.ofNat j, 9])
structure SentInv (s : Nat) (T : List Bool) (J : List Nat) : Prop where
  len : T.length = 200
  nd : J.Nodup
  mem : ∀ j, j ∈ J ↔ j < s ∧ T[j]? = some false
  hi : ∀ j, s ≤ j → j < 200 → T[j]? = some false
  le : J.length ≤ s
theorem SentInv.start : SentInv 0 (List.replicate 200 false) [] := by
  have h : ∀ n : Nat, n = 200 → SentInv 0 (List.replicate n false) [] := fun n hn =>
    ⟨by rw [List.length_replicate]; exact hn, List.nodup_nil, fun j => by simp, fun j _ h => by rw [List.getElem?_replicate, if_pos (by omega)], Nat.le_refl _⟩
  exact h 200 rfl
theorem SentInv.send {s : Nat} {T : List Bool} {J : List Nat} (h : SentInv s T J) (hs : s < 200) : SentInv (s + 1) T (J ++ [s]) := by
  refine ⟨h.len, ?_, fun j => ?_, fun j h1 h2 => h.hi j (by omega) h2, by simp; exact h.le⟩
  · rw [List.nodup_append]
    refine ⟨h.nd, by simp, fun a ha b hb e => ?_⟩
    have h1 := ((h.mem a).1 ha).1
    have h2 := List.mem_singleton.1 hb
    omega
  · rw [List.mem_append, List.mem_singleton, h.mem]
    constructor
    · rintro (⟨h1, h2⟩ | rfl)
      · exact ⟨by omega, h2⟩
      · exact ⟨by omega, h.hi _ (Nat.le_refl _) hs⟩
    · rintro ⟨h1, h2⟩
      by_cases e : j = s
      · exact .inr e
      · exact .inl ⟨by omega, h2⟩
theorem SentInv.take {s : Nat} {T : List Bool} {J : List Nat} (h : SentInv s T J) (i : Nat) (hi : i < J.length) : SentInv s (T.set J[i] true) (J.eraseIdx i) := by
  have hj := (h.mem J[i]).1 (List.getElem_mem hi)
  refine ⟨by simp [h.len], h.nd.eraseIdx i, fun j => ?_, fun j h1 h2 => ?_, by rw [List.length_eraseIdx_of_lt hi]; have := h.le; omega⟩
  · rw [List.mem_eraseIdx_iff_getElem]
    constructor
    · rintro ⟨k, hk, hne, rfl⟩
      have h1 := (h.mem J[k]).1 (List.getElem_mem hk)
      have h2 : J[i] ≠ J[k] := fun e => hne ((List.getElem_inj h.nd).1 e.symm)
      exact ⟨h1.1, by rw [List.getElem?_set_ne h2]; exact h1.2⟩
    · rintro ⟨h1, h2⟩
      have hne : J[i] ≠ j := by
        intro e
        subst e
        have h3 : J[i] < T.length := (List.getElem?_eq_some_iff.1 hj.2).1
        rw [List.getElem?_set_self h3] at h2
        cases h2
      rw [List.getElem?_set_ne hne] at h2
      obtain ⟨k, hk, e⟩ := List.getElem_of_mem ((h.mem j).2 ⟨h1, h2⟩)
      exact ⟨k, hk, fun e2 => hne (by subst e2; exact e), e⟩
  · rw [List.getElem?_set_ne (by omega)]
    exact h.hi j h1 h2
theorem SentInv.count {s : Nat} {T : List Bool} {J : List Nat} (h : SentInv s T J) : J.length = ((List.range s).filter fun j => T[j]? == some false).length := by
  refine List.Perm.length_eq ((List.perm_ext_iff_of_nodup h.nd (List.nodup_range.filter _)).2 fun j => ?_)
  rw [h.mem, List.mem_filter, List.mem_range, beq_iff_eq]
theorem map_erase {α β : Type} (f : α → β) (l : List α) (i : Nat) : (l.map f).eraseIdx i = (l.eraseIdx i).map f := by
  induction l generalizing i with
  | nil => rfl
  | cons m l ih =>
    cases i with
    | zero => rfl
    | succ i => simp [ih]
theorem un8_ofNat (j : Nat) (h : j < 256) : un8 (UInt8.ofNat j) = (j : Int) := by
  unfold un8
  simp
  omega

set_option maxRecDepth 100000 in
set_option maxHeartbeats 16000000 in
theorem netSent_law (A : Option Addr) (n c : Nat) (L : List Ask) (w : World) (hl : L.length = n) (hn : n ≤ 9223372036854775807) (hr : RL w A L) :
    Calls Try.prog 9 #[.slice A n c] w fun e w' => e = .returned (.bool true) ∧ Below w.heap.size w w' := by
  subst hl
  have HL := Lib.hid hr
  clear hr
  go_enter Try.func9, Try.ntmps9
  go_wp2_with fail
  refine (netNew_any 3 _ (by omega) (by omega)).mono ?_
  rintro e w1 ⟨rfl, hn1, hb1⟩
  have N1 := Lib.hid (show Nt w1 w.heap.size w.heap.size (.slice none 0 0) 3 0 [] from ⟨[], hn1, rfl⟩)
  have B1 := Lib.hid hb1
  clear hn1 hb1
  obtain ⟨z200, hz200⟩ : ∃ z200, z200 = ((List.replicate 200 false).map Value.bool).toArray := ⟨_, rfl⟩
  go_upto_region 5 with fail
  refine wp_region_lit ?_
  refine Great.wpList_allocTo rfl _ rfl (.pointer (some ⟨w1.heap.size, 0, none⟩)) (.cells z200 52) ?x1 ?_
  case x1 => rw [hz200]; kernel_rfl
  refine wpList_nil ?_
  rename_i hK
  refine hK _ _ ?_
  clear hK
  obtain ⟨w2, hw2⟩ : ∃ w2, w2 = w1.alloc (.cells z200 52) := ⟨_, rfl⟩
  rw [← hw2]
  have A2 := Lib.hid (show Arr w2 w1.heap.size 52 ((List.replicate 200 false).map Value.bool) by rw [hw2, hz200]; exact Arr.new _ _ _)
  have N2 := Lib.hid (show Nt w2 w.heap.size w.heap.size (.slice none 0 0) 3 0 [] by rw [hw2]; exact N1.out.below ((Below.refl _ _).alloc (Nat.le_refl _) _))
  have B2 := Lib.hid (show Below w.heap.size w w2 by rw [hw2]; exact B1.out.alloc B1.out.size _)
  have S1 := Lib.hid B1.out.size
  clear hw2 hz200 N1 B1
  generalize w1.heap.size = tb at *
  go_wp2_with fail
  go_loopg [5, 7] 150 (fun k s5 s7 wr => ∃ (i s : Nat) (v : Value) (T : List Bool) (J : List Nat), i ≤ 150 ∧ i ≤ L.length ∧ s ≤ i ∧ k = 150 - i ∧ s7 = .int .i64 (i : Int) ∧ s5 = .int .i64 (s : Int) ∧
      Nt wr w.heap.size w.heap.size v 3 (s : Int) (J.map msgJ) ∧ SentInv s T J ∧ Arr wr tb 52 (T.map Value.bool) ∧ Below w.heap.size w wr)
  case atStart => exact ⟨0, 0, _, List.replicate 200 false, [], by omega, Nat.zero_le _, Nat.le_refl _, by omega, rfl, rfl, N2.out, SentInv.start, A2.out, B2.out⟩
  case round =>
    obtain ⟨i, s, v, T, J, hi1, hi2, hs, hk, rfl, rfl, hn, hinv, ha, hb⟩ := hrel
    have HK := Lib.hid hk
    have HN := Lib.hid hn
    have HI := Lib.hid hinv
    have HA := Lib.hid ha
    have HB := Lib.hid hb
    clear hk hn hinv ha hb N2 A2 B2
    by_cases hlt : i < L.length ∧ i < 150
    · obtain ⟨hl1, hl2⟩ := hlt
      obtain ⟨b0, o0, rfl, hr⟩ := HL.out.parts (by omega)
      have hq := hr i hl1
      have k0 := cell_below HB.out hq.c0
      have k3 := cell_below HB.out hq.c3
      rw [add_off] at k0 k3
      rw [← Nat.add_assoc] at k3
      obtain ⟨kd, hkd⟩ : ∃ kd, kd = L[i].kind := ⟨_, rfl⟩
      obtain ⟨nm, hnm⟩ : ∃ nm, nm = L[i].num := ⟨_, rfl⟩
      have r3 : in64 nm := by rw [hnm]; exact hq.r3
      rw [← hkd] at k0
      rw [← hnm] at k3
      have R3 := Lib.hid r3
      have HLT := Lib.hid hl2
      clear hr hq hkd hnm r3
      have i0 : (0 : Int) ≤ (i : Int) := by omega
      have i1 : (i : Int) < (L.length : Int) := by omega
      have i2 : (i : Int) < 150 := by omega
      have s0 : (0 : Int) ≤ (s : Int) := by omega
      have s1 : (s : Int) < 150 := by omega
      by_cases hkind : kd = 1
      · subst hkind
        go_wp2_with fail
        have hN := HN.out.below ((Below.refl _ _).alloc (Nat.le_refl _) (.cells #[.int .u8 (s : Int), .int .u8 9] 5))
        have hRB : RB (wr.alloc (.cells #[.int .u8 (s : Int), .int .u8 9] 5)) (some ⟨wr.heap.size, 0, none⟩) [UInt8.ofNat s, 9] := by
          have h := RB_new wr [UInt8.ofNat s, 9] 5
          have e : (bv [UInt8.ofNat s, 9]).toArray = #[.int .u8 (s : Int), .int .u8 9] := by
            show #[Value.int .u8 (un8 (UInt8.ofNat s)), Value.int .u8 (un8 9)] = _
            rw [un8_ofNat s (by omega)]
            rfl
          rwa [e] at h
        refine (send_plain hN 1 2 (some ⟨wr.heap.size, 0, none⟩) 2 2 [UInt8.ofNat s, 9] rfl (by simp) hRB (fun h => by cases h) (by omega) (by omega) (by omega) (by omega) (by have := HI.out.le; rw [List.length_map]; omega) (by omega) (by omega)).mono ?_
        rintro e w3 ⟨v3, rfl, ht3⟩
        have N3 := Lib.hid (show Nt w3 w.heap.size w.heap.size v3 3 ((s + 1 : Nat) : Int) ((J ++ [s]).map msgJ) by rw [List.map_append]; exact ht3.net)
        have B3 := Lib.hid (hN.goes (HB.out.alloc HB.out.size _) ht3.upd)
        have A3 := Lib.hid ((HA.out.alloc (.cells #[.int .u8 (s : Int), .int .u8 9] 5)).upd ht3.upd (hN.apart (HA.out.alloc _) (by decide) (by decide)))
        clear ht3 hN hRB
        go_wp2_with fail
        go_roundg (150 - (i + 1))
        case measure => have := HK.out; omega
        case rel => exact ⟨i + 1, s + 1, v3, T, J ++ [s], by omega, by omega, by omega, rfl, by go_num, by go_num, N3.out, HI.out.send (by omega), A3.out, B3.out⟩
      · go_wp2_with fail
        by_cases hJ : J.length = 0
        · obtain rfl : J = [] := List.eq_nil_of_length_eq_zero hJ
          refine (take_none HN.out nm).mono ?_
          rintro e w3 ⟨rfl, hb3⟩
          have N3 := Lib.hid (HN.out.below hb3)
          have B3 := Lib.hid (below_below HB.out HB.out.size hb3)
          have A3 := Lib.hid (HA.out.below hb3 HA.out.lt)
          clear hb3
          go_upto_region 14 with fail
          have N4 := Lib.hid (N3.out.below ((Below.refl _ _).alloc (Nat.le_refl _) (.cells #[.int .i64 0, .int .i64 0, .slice none 0 0] 47)))
          have B4 := Lib.hid (B3.out.alloc B3.out.size (.cells #[.int .i64 0, .int .i64 0, .slice none 0 0] 47))
          have A4 := Lib.hid (A3.out.alloc (.cells #[.int .i64 0, .int .i64 0, .slice none 0 0] 47))
          go_wp2_with fail
          go_roundg (150 - (i + 1))
          case measure => have := HK.out; have := HLT.out; omega
          case rel => exact ⟨i + 1, s, v, T, [], by omega, by omega, by omega, rfl, by go_num, rfl, N4.out, HI.out, A4.out, B4.out⟩
        · obtain ⟨q, hq⟩ : ∃ q, q = placeOf nm J.length := ⟨_, rfl⟩
          have hql : q < J.length := by rw [hq]; exact placeOf_lt _ (by omega)
          obtain ⟨j, hj⟩ : ∃ j, j = J[q] := ⟨_, rfl⟩
          have hmem := (HI.out.mem j).1 (by rw [hj]; exact List.getElem_mem hql)
          have hlm : (J.map msgJ).length = J.length := List.length_map ..
          refine (take_plain HN.out nm 1 2 [UInt8.ofNat j, 9] (by rw [hlm, ← hq, List.getElem?_map, List.getElem?_eq_getElem hql, ← hj]; rfl) R3.out.1 R3.out.2).mono ?_
          rw [hlm, ← hq]
          rintro e w5 ⟨A5, c5, v5, rfl, ht5, hv5, hg5⟩
          have hInv := HI.out.take q hql
          rw [← hj] at hInv
          obtain ⟨b1, o1, rfl, r1⟩ := RC.parts hg5.body.r.cells (by simp [bv])
          have x3 := r1 0 _ rfl
          have x4 := r1 1 _ rfl
          rw [show B8 (UInt8.ofNat j) = .int .u8 (j : Int) from congrArg (Value.int .u8) (un8_ofNat j (by omega))] at x3
          have hnet := ht5.net
          rw [map_erase] at hnet
          have N5 := Lib.hid hnet
          have B5 := Lib.hid (HN.out.goes HB.out ht5.upd)
          have A5 := Lib.hid (HA.out.upd ht5.upd (HN.out.apart HA.out (by decide) (by decide)))
          have HQ := Lib.hid hq
          have HJ := Lib.hid hj
          have HM := Lib.hid hmem
          have HINV := Lib.hid hInv
          have X3 := Lib.hid x3
          have X4 := Lib.hid x4
          clear ht5 hv5 hg5 r1 hlm hnet hInv hj hq hmem x3 x4
          go_upto_region 14 with fail
          obtain ⟨W, hW⟩ : ∃ W, W = w5.alloc (.cells #[.int .i64 1, .int .i64 2, .slice (some ⟨b1, o1, none⟩) 2 c5] 47) := ⟨_, rfl⟩
          have bel : Below w5.heap.size w5 W := by rw [hW]; exact (Below.refl _ _).alloc (Nat.le_refl _) _
          have hWc : W.heap[w5.heap.size]? = some (.cells #[.int .i64 1, .int .i64 2, .slice (some ⟨b1, o1, none⟩) 2 c5] 47 (0, 0)) := by rw [hW]; exact heap_alloc_new _ _
          have y0 : W.cell? ⟨w5.heap.size, 0, none⟩ = some (.int .i64 1) := (cell_of_row W _ 0 _ _ _ hWc).trans rfl
          have y1 : W.cell? ⟨w5.heap.size, 1, none⟩ = some (.int .i64 2) := (cell_of_row W _ 1 _ _ _ hWc).trans rfl
          have y2 : W.cell? ⟨w5.heap.size, 2, none⟩ = some (.slice (some ⟨b1, o1, none⟩) 2 c5) := (cell_of_row W _ 2 _ _ _ hWc).trans rfl
          have x3 : W.cell? ⟨b1, o1, none⟩ = some (.int .u8 (j : Int)) := cell_below bel X3.out
          have x4 : W.cell? ⟨b1, o1 + 1, none⟩ = some (.int .u8 9) := cell_below bel X4.out
          have N6 := Lib.hid (N5.out.below bel)
          have B6 := Lib.hid (below_below B5.out B5.out.size bel)
          have hA6 := A5.out.below bel A5.out.lt
          have z1 : W.cell? ⟨tb, j, none⟩ = some (.bool false) := hA6.cell (by rw [List.getElem?_map, HM.out.2]; rfl)
          have z2 := hA6.frozen j
          have A6 := Lib.hid hA6
          rw [← hW]
          have j0 : (0 : Int) ≤ (j : Int) := by omega
          have j1 : (j : Int) < (s : Int) := by have := HM.out.1; omega
          have j2 : (j : Int) < 200 := by omega
          clear hW bel hWc hA6
          go_wp2_with fail
          go_roundg (150 - (i + 1))
          case measure => have := HK.out; have := HLT.out; omega
          case rel => exact ⟨i + 1, s, v5, T.set j true, J.eraseIdx q, by omega, by omega, by omega, rfl, by go_num, rfl, N6.out.set_arr A6.out (by decide) (by decide) (fun u hu z => by simp only [List.mem_map] at hu; obtain ⟨b, _, rfl⟩ := hu; simp), HINV.out, by rw [List.map_set]; exact A6.out.set j (.bool true), B6.out.setCell (by have := S1.out; exact this) _⟩
    · have hst : L.length ≤ i ∨ i < L.length ∧ 150 ≤ i := by omega
      clear hlt
      rcases hst with hst | ⟨hst1, hst2⟩
      all_goals
        go_wp2_with fail
        go_loopg [10, 11] s (fun k s10 s11 wx => ∃ (q c : Nat), q ≤ s ∧ k = s - q ∧ s11 = .int .i64 (q : Int) ∧ s10 = .int .i64 (c : Int) ∧ c = ((List.range q).filter fun j => T[j]? == some false).length ∧ wx = wr)
        case atStart => exact ⟨0, 0, Nat.zero_le _, by omega, rfl, rfl, rfl, rfl⟩
        case round =>
          obtain ⟨q, c2, hq, hk2, rfl, rfl, hc2, rfl⟩ := hrel
          have HK2 := Lib.hid hk2
          have HC2 := Lib.hid hc2
          have hcle : c2 ≤ q := by rw [hc2]; exact Nat.le_trans (List.length_filter_le _ _) (by simp)
          clear hk2 hc2
          by_cases hlt : q < s
          · have hT : q < T.length := by rw [HI.out.len]; omega
            have hcount : ((List.range (q + 1)).filter fun j => T[j]? == some false).length = c2 + (if T[q] = false then 1 else 0) := by
              rw [List.range_succ, List.filter_append, List.length_append, ← HC2.out]
              cases hb : T[q] <;> simp [List.filter_cons, List.getElem?_eq_getElem hT, hb]
            have z1 : wr.cell? ⟨tb, q, none⟩ = some (.bool T[q]) := HA.out.cell (by rw [List.getElem?_map, List.getElem?_eq_getElem hT]; rfl)
            have q0 : (0 : Int) ≤ (q : Int) := by omega
            have q1 : (q : Int) < (s : Int) := by omega
            have q2 : (q : Int) < 200 := by omega
            have HCN := Lib.hid hcount
            clear hcount
            cases hb : T[q]
            all_goals
              rw [hb] at z1
              have HCN2 := Lib.hid HCN.out
              rw [hb] at HCN2
              clear hb HCN hT
              go_wp2_with fail
              go_roundg (s - (q + 1))
              case measure => have := HK2.out; omega
              case rel => first | exact ⟨q + 1, c2 + 1, by omega, rfl, by go_num, by go_num, HCN2.out.symm, rfl⟩ | exact ⟨q + 1, c2, by omega, rfl, by go_num, rfl, HCN2.out.symm, rfl⟩
          · obtain rfl : q = s := by omega
            obtain rfl : c2 = J.length := by rw [HC2.out, ← HI.out.count]
            go_wp2_with fail
            refine (pending_plain HN.out).mono ?_
            rintro e w7 ⟨x, M, rfl, hm, ho, hf, hb⟩
            obtain ⟨A7, c7, rfl, _⟩ := own_slice ho
            rw [List.length_map]
            have B7 := Lib.hid (below_below HB.out HB.out.size hb)
            have N7 := Lib.hid (HN.out.below hb)
            clear hm ho hf hb
            go_wp2_with fail
            refine (sent_plain N7.out).mono ?_
            rintro e w8 ⟨rfl, rfl⟩
            go_wp2_with fail
            refine (known5_any _).mono ?_
            rintro e w8 ⟨rfl, hb⟩
            have B8 := Lib.hid (below_below B7.out B7.out.size hb)
            clear hb
            go_wp2_with fail
            go_ret
            exact ⟨rfl, B8.out⟩

end Go.Proofs.Ytkpkimhpecbkoaa
