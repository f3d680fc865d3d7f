/-
  The texts ClaimW of this proof in one (what is used of them): what each proves is said at its head. No conditions beyond those that each theorem says.
-/
import Derived.Test.YtjakhemolecbnaaNG
import Derived.Test.YtjakhemolecbnaaNM
import Derived.Test.YtjakhemolecbnaaNH

/-
  The law's claim, on records of any texts, all of them together bounded.
-/
section
set_option linter.unusedVariables false
set_option linter.unusedSimpArgs false
namespace Go.Proofs.Ytjakhemolecbnaa
open Go.RowKit

theorem encL_tot : ∀ (M : Lks), (∀ x ∈ M, x.2.length = 32) → (encL M).length = ((M.map (·.1)).map List.length).sum + 36 * M.length
  | [], _ => by simp [encL]
  | x :: M, h => by
    have ih := encL_tot M (fun y hy => h y (by simp [hy]))
    have hx := h x (by simp)
    have e : encL (x :: M) = be4n x.1.length ++ x.1 ++ x.2 ++ encL M := by simp [encL]
    rw [e, List.length_append, List.length_append, List.length_append, be4n_length, hx, ih]
    simp only [List.map_cons, List.sum_cons, List.length_cons]
    omega
/-- The bytes of the texts of some records. -/
def bulkR (ms : List Rm) : Nat := (ms.map fun m => m.tx.length + m.body.length).sum
theorem bulk_mem {ms : List Rm} {m : Rm} (h : m ∈ ms) : m.tx.length + m.body.length ≤ bulkR ms := by
  unfold bulkR
  induction ms with
  | nil => cases h
  | cons x r ih =>
    simp only [List.map_cons, List.sum_cons]
    rcases List.mem_cons.1 h with rfl | h
    · omega
    · have := ih h
      omega
theorem txts_tot (ms : List Rm) (h : ∀ m ∈ ms, m.groups.length ≤ 255) : ((ms.map fun m => txtOf m.p).map List.length).sum ≤ bulkR ms + 265 * ms.length := by
  unfold bulkR
  induction ms with
  | nil => simp
  | cons x r ih =>
    have h1 := ih (fun m hm => h m (by simp [hm]))
    have h2 := h x (by simp)
    simp only [List.map_cons, List.sum_cons, List.length_cons, txtOf_length]
    have e1 : x.p.tx.length = x.tx.length := rfl
    have e2 : x.p.groups.length = x.groups.length := rfl
    have e3 : x.p.body.length = x.body.length := rfl
    omega
theorem txts_mk (ms : List Rm) : mkOf (txts ms) = mkOf ((ms.map Rm.p).map txtOf) := by
  unfold txts
  rw [List.map_map]
  rfl
/-- Records of any texts, as they lie in memory; all of them together bounded. -/
structure RmAtW (w : World) (A : Option Addr) (ms : List Rm) : Prop where
  r : RC w A (rmc ms)
  g0 : ∀ m ∈ ms, RG w m.A m.groups ∧ m.groups.length ≤ 255
  tot : bulkR ms ≤ 1200000
theorem RmAtW.below {w w' : World} {A : Option Addr} {ms : List Rm} (h : RmAtW w A ms) (hb : Below w.heap.size w w') : RmAtW w' A ms := ⟨h.r.below hb, fun m hm => ⟨(h.g0 m hm).1.below hb, (h.g0 m hm).2⟩, h.tot⟩
theorem RmAtW.each {w : World} {A : Option Addr} {ms : List Rm} (h : RmAtW w A ms) : ∀ m ∈ ms, m.tx.length + m.body.length ≤ 1200000 := fun m hm => Nat.le_trans (bulk_mem hm) h.tot
theorem RmAtW.g {w : World} {A : Option Addr} {ms : List Rm} (h : RmAtW w A ms) : ∀ m ∈ ms, RG w m.A m.groups ∧ m.tx.length ≤ 1200000 ∧ m.groups.length ≤ 255 ∧ m.body.length ≤ 1200000 := fun m hm => ⟨(h.g0 m hm).1, by have := h.each m hm; omega, (h.g0 m hm).2, by have := h.each m hm; omega⟩
theorem RmAtW.encl {w : World} {A : Option Addr} {ms : List Rm} (h : RmAtW w A ms) (hn : ms.length ≤ 1000) : 4 ≤ (encR (ms.map Rm.p)).length ∧ (encL (mkOf ((ms.map Rm.p).map txtOf))).length ≤ 1600000 := by
  have h1 := encL_tot (mkOf ((ms.map Rm.p).map txtOf)) (mkOf_heads _)
  rw [mkOf_map, mkOf_length] at h1
  have h2 := txts_tot ms (fun m hm => (h.g0 m hm).2)
  have h3 : (ms.map Rm.p).map txtOf = ms.map fun m => txtOf m.p := by rw [List.map_map]; rfl
  rw [← h3] at h2
  have h4 := h.tot
  simp only [List.length_map] at h1
  constructor
  · unfold encR encOf
    rw [List.length_append, be4n_length]
    omega
  · omega

set_option maxRecDepth 100000 in
set_option maxHeartbeats 8000000 in
theorem claimW_any (gr : Int) (A : Option Addr) (n c : Nat) (ms : List Rm) (w : World) (hl : ms.length = n) (hn : n ≤ 1000) (hr : RmAtW w A ms) :
    Calls Try.prog 9 #[.int .i64 gr, .slice A n c] w fun e w' => ∃ A' c', e = .returned (.agg #[.int .i64 gr, .slice A' (encR (ms.map Rm.p)).length c']) ∧ w'.ownsRow w.heap.size 5 1 (.slice A' (encR (ms.map Rm.p)).length c') (encR (ms.map Rm.p)).length (bv (encR (ms.map Rm.p))) ∧ Below w.heap.size w w' := by
  subst hl
  have HR := Lib.hid hr
  have HN := Lib.hid hn
  clear hr
  have hb1 : Below w.heap.size w (w.alloc (.cells #[.int .i64 0, .slice none 0 0] 27)) := (Below.refl _ _).alloc (Nat.le_refl _) _
  have hx1 := heap_alloc_new w (.cells #[.int .i64 0, .slice none 0 0] 27)
  have hs1 : w.heap.size < (w.alloc (.cells #[.int .i64 0, .slice none 0 0] 27)).heap.size := by simp
  obtain ⟨w1, hw1⟩ : ∃ w1, w1 = w.alloc (.cells #[.int .i64 0, .slice none 0 0] 27) := ⟨_, rfl⟩
  rw [← hw1] at hb1 hx1 hs1
  obtain ⟨bz, hbz⟩ : ∃ bz, bz = w.heap.size := ⟨_, rfl⟩
  rw [← hbz] at hx1 hs1
  have HB1 := Lib.hid hb1
  have HX1 := Lib.hid hx1
  have HS1 := Lib.hid hs1
  have HW1 := Lib.hid hw1
  have HBZ := Lib.hid hbz
  clear hb1 hx1 hs1 hw1 hbz
  go_enter Try.func9, Try.ntmps9
  go_upto_region 1 with fail
  rw [← HW1.out, ← HBZ.out]
  go_wp2_with fail
  go_loopg [5,6] ms.length (fun k s5 s6 wr => ∃ (i : Nat), i ≤ ms.length ∧ k = ms.length - i ∧ s6 = .int .i64 (i : Int) ∧ wr.ownsRow w1.heap.size 9 1 s5 i (sv (txts (ms.take i))) ∧ Below w1.heap.size w1 wr)
  case atStart => exact ⟨0, Nat.zero_le _, by omega, rfl, World.ownsRow_nil _ _ _ _, Below.refl _ _⟩
  case round =>
    obtain ⟨i, hi, hk, rfl, ho, hb⟩ := hrel
    have HK := Lib.hid hk
    have HO := Lib.hid ho
    have HB := Lib.hid hb
    have HBB := Lib.hid (show Below w.heap.size w wr from below_below HB1.out HB1.out.size hb)
    clear hk ho hb
    by_cases hlt : i < ms.length
    · obtain ⟨m, hm⟩ : ∃ m, ms[i]? = some m := ⟨_, List.getElem?_eq_getElem hlt⟩
      have HMM := Lib.hid (List.mem_of_getElem? hm)
      have HTK := Lib.hid (txts_take ms i m hm)
      obtain ⟨br, orr, rfl, hcell⟩ := RC.part HR.out.r (by rw [rmc_length]; omega)
      have hg := rmc_get ms i hlt
      have hme : ms[i] = m := by
        have := List.getElem?_eq_getElem hlt
        rw [hm] at this
        exact (Option.some.inj this).symm
      rw [hme] at hg
      have z0 := cell_below HBB.out (hcell _ _ hg.1)
      have z1 := cell_below HBB.out (hcell _ _ hg.2.1)
      have z2 := cell_below HBB.out (hcell _ _ hg.2.2.1)
      have z3 := cell_below HBB.out (hcell _ _ hg.2.2.2)
      rw [← Nat.add_assoc] at z1 z2 z3
      have hgm := HR.out.g m HMM.out
      have i0 : (0 : Int) ≤ (i : Int) := by omega
      have i1 : (i : Int) < (ms.length : Int) := by omega
      have HLT := Lib.hid hlt
      have HGM := Lib.hid hgm
      clear hm hcell hg hme hgm hlt hi
      go_wp2_with fail
      refine (rec_any m wr).mono ?_
      rintro e w3 ⟨rfl, hb3⟩
      have HB3 := Lib.hid (below_below HB.out HB.out.size hb3)
      have HO3 := Lib.hid (own_below HO.out hb3)
      clear hb3 z0 z1 z2 z3
      go_wp2_with fail
      refine (refText20_any m w3 (HGM.out.1.below (below_below HB1.out HB1.out.size HB3.out)) (by have := HGM.out.2.1; omega) (by have := HGM.out.2.2.1; omega) (by have := HGM.out.2.2.2; omega)).mono ?_
      rintro e w4 ⟨rfl, hb4⟩
      have HB4 := Lib.hid (below_below HB3.out HB3.out.size hb4)
      have HO4 := Lib.hid (own_below HO3.out hb4)
      clear hb4
      go_wp2_with (at_builtin; refine append_any rfl _ _ 49 rfl w1.heap.size 9 (.string ⟨#[]⟩) 1 16 Try.underlying49 infoS rfl (by omega) (by omega) u5 i (sv (txts (ms.take i))) rfl (HO4.out.alloc _) _ 1 _ [.string (strB (txtOf m.p))] rfl rfl (RC_newL _ [.string (strB (txtOf m.p))] 9) (by intro u hu; simp at hu; rw [hu]; rfl) ?c1 ?c2 ?_)
      case c1 => have := HN.out; have := HLT.out; omega
      case c2 => have := HB4.out.size; simp; omega
      intro v6 w6 ho6 hg6 hat6
      have HO6 := Lib.hid (show w6.ownsRow w1.heap.size 9 1 v6 (i + 1) (sv (txts (ms.take (i + 1)))) by rw [HTK.out, sv_append]; exact ho6)
      have HB6 := Lib.hid (((HB4.out.alloc HB4.out.size _).grown hg6 (by have := HB4.out.size; simp; omega) (fun k hk => (World.ownsRow.lt HO4.out k hk).1) : Below w1.heap.size w1 w6))
      clear ho6 hg6 hat6
      go_wp2_with fail
      go_roundg (ms.length - (i + 1))
      case measure => have := HK.out; have := HLT.out; omega
      case rel => exact ⟨i + 1, HLT.out, rfl, by go_num, HO6.out, HB6.out⟩
    · obtain rfl : i = ms.length := by omega
      rw [List.take_length] at HO
      obtain ⟨T, hT⟩ : ∃ T, T = txts ms := ⟨_, rfl⟩
      rw [← hT] at HO
      have hTl : T.length = ms.length := by rw [hT]; simp [txts]
      have HTE := Lib.hid (show mkOf T = mkOf ((ms.map Rm.p).map txtOf) by rw [hT]; unfold txts; rw [List.map_map]; rfl)
      have HTS := Lib.hid (show ∀ x ∈ T, x.length ≤ 1500000 by
        intro x hx
        rw [hT] at hx
        unfold txts at hx
        obtain ⟨m, hm, rfl⟩ := List.mem_map.1 hx
        obtain ⟨_, h1, h2, h3⟩ := HR.out.g m hm
        have h4 := HR.out.each m hm
        rw [txtOf_length]
        show 10 + m.tx.length + m.groups.length + m.body.length ≤ 1500000
        omega)
      have HTT := Lib.hid (show (encL (mkOf T)).length ≤ 17000000 by
        have h := HR.out.encl HN.out
        rw [← txts_mk] at h
        rw [hT]
        exact Nat.le_trans h.2 (by decide))
      rw [← hTl] at HO
      have HTL := Lib.hid hTl
      obtain ⟨A5, c5, rfl, _⟩ := own_slice HO.out
      have hnl : ¬ ((ms.length : Int) < (ms.length : Int)) := by omega
      clear hT hlt hi
      rw [← hTl] at hnl ⊢
      clear hTl
      have hTn : T.length ≤ 1000 := by rw [HTL.out]; exact HN.out
      go_wp2_with fail
      refine (refMake_any A5 T.length c5 T wr rfl (by omega) HTS.out (own_RC HO.out)).mono ?_
      rintro e w6 ⟨v6, rfl, ho6, hb6⟩
      obtain ⟨A6, c6, rfl, _⟩ := own_slice ho6
      have HO6 := Lib.hid ho6
      have HB6 := Lib.hid (below_below HB.out HB.out.size hb6)
      have HMT := Lib.hid (show ∀ x ∈ mkOf T, x.1.length ≤ 1500000 by
        intro x hx
        have h : x.1 ∈ (mkOf T).map (·.1) := List.mem_map.2 ⟨x, hx, rfl⟩
        rw [mkOf_map] at h
        exact HTS.out _ h)
      clear ho6 hb6
      go_wp2_with fail
      refine (refEncodeW_any A6 T.length c6 (mkOf T) w6 (mkOf_length T) (by omega) (mkOf_heads T) HMT.out HTT.out (own_RC HO6.out)).mono ?_
      rintro e w7 ⟨v7, rfl, ho7, hb7⟩
      obtain ⟨A7, c7, rfl, _⟩ := own_slice ho7
      have HEN := Lib.hid (show encOf (mkOf T) = encR (ms.map Rm.p) by unfold encR; rw [HTE.out])
      rw [HEN.out] at ho7 ⊢
      have HO7 := Lib.hid ho7
      have HB7 := Lib.hid (below_below HB6.out HB6.out.size hb7)
      have hxz := (HB7.out.block bz HS1.out).trans HX1.out
      have HZ := Lib.hid hxz
      have y0 : w7.cell? ⟨bz, 0, none⟩ = some (.int .i64 0) := (cell_of_row w7 bz 0 _ _ _ hxz).trans rfl
      have y1 : w7.cell? ⟨bz, 1, none⟩ = some (.slice none 0 0) := (cell_of_row w7 bz 1 _ _ _ hxz).trans rfl
      have f0 := frozen_of_row w7 bz 0 _ _ hxz
      have f1 := frozen_of_row w7 bz 1 _ _ hxz
      have HU := Lib.hid (show Upd (fun k => k = bz) w7 ((w7.setCell ⟨bz, 0, none⟩ (.int .i64 gr)).setCell ⟨bz, 1, none⟩ (.slice A7 (encR (ms.map Rm.p)).length c7)) from ((Upd.refl (fun k => k = bz) w7).setCell (p := ⟨bz, 0, none⟩) (fun _ => rfl) _).setCell (p := ⟨bz, 1, none⟩) (fun _ => rfl) _)
      obtain ⟨Ln, hLn⟩ : ∃ Ln, Ln = (encR (ms.map Rm.p)).length := ⟨_, rfl⟩
      rw [← hLn] at HU HO7 ⊢
      have HLN := Lib.hid hLn
      clear ho7 hb7 hxz hLn
      go_wp2_with fail
      try simp only [Exit.inBlock, Exit.then]
      refine bodyPost_ret (v := .agg #[.int .i64 gr, .slice A7 Ln c7]) ?_ rfl ?_
      · exact results_cell_row rfl _ _ bz 27 _ (0, 0) _ rfl (by rw [setCell_at (setCell_at HZ.out _) _]; rfl) Try.underlying27 rfl infoClm
      · obtain rfl := HLN.out
        have hs := HBZ.out
        have hs1 := HS1.out
        have hbl := below_below HB1.out HB1.out.size HB7.out
        refine ⟨A7, c7, rfl, ?_, below_upd hbl hbl.size HU.out (fun k hk => by omega)⟩
        exact own_upd (own_lower HO7.out (show w.heap.size ≤ w6.heap.size from Nat.le_trans HB1.out.size HB6.out.size)) HU.out (fun k hk e => by have := (World.ownsRow.lt HO7.out k hk).1; have := HB6.out.size; omega)

/-- A claim whose bytes are one's own. -/
structure OwnB (w : World) (B : Nat) (x : Cl) : Prop where
  own : w.ownsRow B 5 1 (.slice x.A x.l.length x.c) x.l.length (bv x.l)
  ge : 4 ≤ x.l.length
theorem OwnB.below {w w' : World} {B : Nat} {x : Cl} (h : OwnB w B x) (hb : Below w.heap.size w w') : OwnB w' B x := ⟨own_below h.own hb, h.ge⟩
theorem OwnB.upd {F : Nat → Prop} {w w' : World} {B : Nat} {x : Cl} (h : OwnB w B x) (u : Upd F w w') (hF : ∀ k, (Value.slice x.A x.l.length x.c).ownBlock = some k → ¬ F k) : OwnB w' B x := ⟨own_upd h.own u (fun k hk e => hF k hk e), h.ge⟩
theorem claim_w (gr : Int) (A : Option Addr) (n c : Nat) (ms : List Rm) (w : World) (hl : ms.length = n) (hn : n ≤ 1000) (hr : RmAtW w A ms) (B : Nat) (v : Value) (L : List Cl) (hR : ClsG w B v L) (hB : B ≤ w.heap.size) :
    Calls Try.prog 9 #[.int .i64 gr, .slice A n c] w fun e w' => ∃ (xA : Option Addr) (xc : Nat) (xl : List UInt8), e = .returned (.agg #[.int .i64 gr, .slice xA xl.length xc]) ∧ Below w.heap.size w w' ∧ ClsG w' B v L ∧ BtG w' B v ⟨gr, xA, xc, xl⟩ ∧ OwnB w' B ⟨gr, xA, xc, xl⟩ := by
  subst hl
  have hlen := hr.encl hn
  have hle : (encR (ms.map Rm.p)).length ≤ 1600004 := by
    unfold encR encOf
    rw [List.length_append, be4n_length]
    omega
  refine (claimW_any gr A ms.length c ms w rfl hn hr).mono ?_
  rintro e w' ⟨A', c', rfl, hown, hb⟩
  refine ⟨A', c', encR (ms.map Rm.p), rfl, hb, hR.below hb, ⟨own_RC hown, own_nil hown, Nat.le_trans hle (by decide), fun h0 ad e => ?_⟩, ⟨own_lower hown hB, hlen.1⟩⟩
  have hA : A' = some ad := e
  have h1 := World.ownsRow.lt hown ad.block (by rw [hA]; rfl)
  refine ⟨by omega, h1.2, fun h5 => ?_⟩
  have := (World.ownsRow.lt hR.own _ h5).2
  omega
end Go.Proofs.Ytjakhemolecbnaa
end
