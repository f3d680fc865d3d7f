/-
  The walk of the law HistAlike.
-/
import Derived.Test.YtiefgnmekikckaaKnown21
set_option linter.unusedVariables false
set_option linter.unusedSimpArgs false
namespace Go.Proofs.Ytiefgnmekikckaa
open Go.RowKit

theorem xor1_ne (k : Int) (h0 : -9223372036854775808 ≤ k) (h1 : k ≤ 9223372036854775807) : bits .xor .i64 k 1 ≠ k := by
  have e1 : bits .xor .i64 k 1 = IntKind.i64.wrap (((BitVec.ofInt 64 k) ^^^ (BitVec.ofInt 64 1)).toNat : Int) := rfl
  have e2 : ∀ x : BitVec 64, BitVec.ofInt 64 (IntKind.i64.wrap (x.toNat : Int)) = x := by
    intro x
    apply BitVec.eq_of_toNat_eq
    rw [BitVec.toNat_ofInt, IntKind.wrap_i64]
    have := x.isLt
    omega
  intro h
  rw [e1] at h
  have h2 := congrArg (BitVec.ofInt 64) h
  rw [e2] at h2
  have h3 := congrArg (fun z => BitVec.ofInt 64 k ^^^ z) h2
  simp only [← BitVec.xor_assoc, BitVec.xor_self, BitVec.zero_xor] at h3
  exact absurd h3 (by decide)

def sameB (o1 o2 t1 t2 y1 y2 : Int) (L1 L2 : List (List UInt8)) : Bool := decide (o1 = o2 ∧ L1 = L2 ∧ t1 = t2 ∧ y1 = y2)
theorem same_agg (o1 o2 t1 t2 y1 y2 : Int) (A1 A2 : Option Addr) (n1 c1 n2 c2 : Nat) (L1 L2 : List (List UInt8)) (w : World) (R : Bool) (hR : sameB o1 o2 t1 t2 y1 y2 L1 L2 = R) (hl1 : L1.length = n1) (hl2 : L2.length = n2) (hn : n1 ≤ 9000000000000000000) (hm : n2 ≤ 9000000000000000000) (h1 : RS w A1 L1) (h2 : RS w A2 L2) :
    Calls Try.prog 37 #[.agg #[.int .i64 o1, .slice A1 n1 c1, .int .i64 t1, .int .i64 y1], .agg #[.int .i64 o2, .slice A2 n2 c2, .int .i64 t2, .int .i64 y2]] w fun e w' => e = .returned (.bool R) ∧ Below w.heap.size w w' := by
  subst hR
  exact same_any o1 o2 t1 t2 y1 y2 A1 A2 n1 c1 n2 c2 L1 L2 w hl1 hl2 hn hm h1 h2

/-- A reply in a block of its own. -/
structure Rep (w : World) (g : Nat) (o : Int) (A : Option Addr) (n c : Nat) (tt y : Int) (L : List (List UInt8)) : Prop where
  at_ : w.heap[g]? = some (.cells #[.int .i64 o, .slice A n c, .int .i64 tt, .int .i64 y] 63 (0, 0))
  rs : RS w A L
  len : L.length = n
theorem Rep.below {w w' : World} {g : Nat} {o : Int} {A : Option Addr} {n c : Nat} {tt y : Int} {L : List (List UInt8)} (h : Rep w g o A n c tt y L) (hb : Below w.heap.size w w') : Rep w' g o A n c tt y L :=
  ⟨(hb.block g (Array.getElem?_eq_some_iff.1 h.at_).1).trans h.at_, h.rs.below hb, h.len⟩
theorem Rep.cells {w : World} {g : Nat} {o : Int} {A : Option Addr} {n c : Nat} {tt y : Int} {L : List (List UInt8)} (h : Rep w g o A n c tt y L) :
    w.cell? ⟨g, 0, none⟩ = some (.int .i64 o) ∧ w.cell? ⟨g, 1, none⟩ = some (.slice A n c) ∧ w.cell? ⟨g, 2, none⟩ = some (.int .i64 tt) ∧ w.cell? ⟨g, 3, none⟩ = some (.int .i64 y) :=
  ⟨(cell_of_row w _ 0 _ _ _ h.at_).trans rfl, (cell_of_row w _ 1 _ _ _ h.at_).trans rfl, (cell_of_row w _ 2 _ _ _ h.at_).trans rfl, (cell_of_row w _ 3 _ _ _ h.at_).trans rfl⟩

set_option maxRecDepth 100000 in
set_option maxHeartbeats 16000000 in
theorem histAlike_any (o tt y how : Int) (A : Option Addr) (n c : Nat) (L : List (List UInt8)) (w : World) (hl : L.length = n) (hn : n * 16 ≤ 140737488351232) (hr : RS w A L)
    (ho : in64 o) (ht : in64 tt) (hy : in64 y) (hw : in64 how) :
    Calls Try.prog 11 #[.agg #[.int .i64 o, .slice A n c, .int .i64 tt, .int .i64 y], .int .i64 how] w fun e w' => e = .returned (.bool true) ∧ Below w.heap.size w w' := by
  have HR := Lib.hid hr
  have HL := Lib.hid hl
  clear hr hl
  go_enter Try.func11, Try.ntmps11
  go_upto_region 2 with fail
  obtain ⟨W2, hW2⟩ : ∃ W2, W2 = (w.alloc (.cells #[.int .i64 o, .slice A n c, .int .i64 tt, .int .i64 y] 63)).alloc (.cells #[.int .i64 o, .slice A n c, .int .i64 tt, .int .i64 y] 63) := ⟨_, rfl⟩
  have B2 := Lib.hid (show Below w.heap.size w W2 by rw [hW2]; exact ((Below.refl _ _).alloc (Nat.le_refl _) _).alloc (by simp) _)
  have hz2 : W2.heap.size = w.heap.size + 2 := by rw [hW2]; simp
  have Ra := Lib.hid (show Rep W2 w.heap.size o A n c tt y L from ⟨by rw [hW2]; exact (Below.heap_alloc _ _ _ (by simp)).trans (heap_alloc_new w _), HR.out.below B2.out, HL.out⟩)
  have hb2 : W2.heap[w.heap.size + 1]? = some (.cells #[.int .i64 o, .slice A n c, .int .i64 tt, .int .i64 y] 63 (0, 0)) := by
    rw [hW2]
    have h := heap_alloc_new (w.alloc (.cells #[.int .i64 o, .slice A n c, .int .i64 tt, .int .i64 y] 63)) (.cells #[.int .i64 o, .slice A n c, .int .i64 tt, .int .i64 y] 63)
    simpa using h
  have Hb2 := Lib.hid hb2
  rw [← hW2]
  obtain ⟨a0, a1, a2, a3⟩ := Ra.out.cells
  clear hW2 hb2
  have Z2 := Lib.hid hz2
  have hz : w.heap.size + 1 < W2.heap.size := by omega
  have hz1 : w.heap.size < W2.heap.size := by omega
  clear hz2
  go_wp2_with (at_builtin; refine append_any rfl _ _ 61 rfl (w.heap.size + 2) 9 _ 1 16 Try.underlying61 infoS rfl (by omega) (by omega) _ 0 [] rfl (World.ownsRow_lit W2 #[] 0 (by have := Z2.out; omega) (by simp [maxLen]) rfl) _ n _ (sv L) rfl (by rw [sv_length, HL.out, Nat.mul_one]) (Ra.out.rs.below ((Below.refl _ _).alloc (Nat.le_refl _) _)) (sv_one L) ?c1 ?c2 ?_)
  case c1 => omega
  case c2 => have := Z2.out; simp; omega
  intro v3 w3 ho3 hg3 hv3
  have ho3' : w3.ownsRow (w.heap.size + 2) 9 1 v3 n (sv L) := by simpa using ho3
  obtain ⟨A3, c3, rfl, hnc3⟩ := own_slice ho3'
  have hb3 : Below W2.heap.size W2 w3 := ((Below.refl _ _).alloc (Nat.le_refl _) _).grown hg3 (by simp) (fun k hk => by simp [Value.ownBlock] at hk; omega)
  have Ra3 := Lib.hid (Ra.out.below hb3)
  have hr3 : w3.heap[w.heap.size + 1]? = some (.cells #[.int .i64 o, .slice A n c, .int .i64 tt, .int .i64 y] 63 (0, 0)) := (hb3.block _ hz).trans Hb2.out
  have f1 := frozen_of_row w3 (w.heap.size + 1) 1 _ _ hr3
  have q1 : w3.cell? ⟨w.heap.size + 1, 1, none⟩ = some (.slice A n c) := (cell_of_row w3 _ 1 _ _ _ hr3).trans rfl
  have B3 := Lib.hid (below_below B2.out B2.out.size hb3)
  have HR3 := Lib.hid hr3
  have O3 := Lib.hid ho3'
  clear ho3 hg3 hv3 hb3 ho3' hr3 a0 a1 a2 a3
  go_upto_region 3 with fail
  obtain ⟨W4, hW4⟩ : ∃ W4, W4 = w3.setCell ⟨w.heap.size + 1, 1, none⟩ (.slice A3 n c3) := ⟨_, rfl⟩
  have hu4 : Upd (fun k => k = w.heap.size + 1) w3 W4 := by rw [hW4]; exact (Upd.refl (fun k => k = w.heap.size + 1) w3).setCell (p := ⟨w.heap.size + 1, 1, none⟩) (fun _ => rfl) _
  have O4 := Lib.hid (own_upd O3.out hu4 (fun k hk e => by have := (O3.out.lt k hk).1; omega))
  have Ra4 := Lib.hid (show Rep W4 w.heap.size o A n c tt y L from ⟨(hu4.block _ (Array.getElem?_eq_some_iff.1 Ra3.out.at_).1 (by omega)).trans Ra3.out.at_, HR.out.below (below_upd B3.out B3.out.size hu4 (fun k e => by omega)), HL.out⟩)
  have Rb4 := Lib.hid (show Rep W4 (w.heap.size + 1) o A3 n c3 tt y L from ⟨by rw [hW4, setCell_at HR3.out]; rfl, own_RC O4.out, HL.out⟩)
  have B4 := Lib.hid (below_upd B3.out B3.out.size hu4 (fun k e => by omega))
  rw [← hW4]
  clear hW4 hu4 f1 q1 hz hz1
  obtain ⟨a0, a1, a2, a3⟩ := Ra4.out.cells
  obtain ⟨b0, b1, b2, b3⟩ := Rb4.out.cells
  go_wp2_with fail
  refine (same_agg o o tt tt y y A A3 n c n c3 L L W4 true (by simp [sameB]) HL.out HL.out (by omega) (by omega) Ra4.out.rs Rb4.out.rs).mono ?_
  rintro e w5 ⟨rfl, hb5⟩
  have Ra5 := Lib.hid (Ra4.out.below hb5)
  have Rb5 := Lib.hid (Rb4.out.below hb5)
  have O5 := Lib.hid (own_below O4.out hb5)
  have B5 := Lib.hid (below_below B4.out B4.out.size hb5)
  clear a0 a1 a2 a3 b0 b1 b2 b3 hb5
  obtain ⟨a0, a1, a2, a3⟩ := Ra5.out.cells
  obtain ⟨b0, b1, b2, b3⟩ := Rb5.out.cells
  go_wp2_with fail
  refine (same_agg o o tt tt y y A3 A n c3 n c L L w5 true (by simp [sameB]) HL.out HL.out (by omega) (by omega) Rb5.out.rs Ra5.out.rs).mono ?_
  rintro e w6 ⟨rfl, hb6⟩
  have Ra6 := Lib.hid (Ra5.out.below hb6)
  have Rb6 := Lib.hid (Rb5.out.below hb6)
  have O6 := Lib.hid (own_below O5.out hb6)
  have B6 := Lib.hid (below_below B5.out B5.out.size hb6)
  clear a0 a1 a2 a3 b0 b1 b2 b3 hb6
  obtain ⟨hw0, hw1⟩ := hw
  go_upto_if 23 with fail
  go_cut [1] (fun s1 wx => ∃ m : Int, 0 ≤ m ∧ m ≤ 9223372036854775807 ∧ s1 = .int .i64 m ∧ wx = w6)
  case first =>
    by_cases hneg : how < 0
    · go_wp2_with fail
      go_meet
      exact ⟨-(how + 1), by omega, by omega, by first | rfl | (congr 1; omega), rfl⟩
    · go_wp2_with fail
      go_meet
      exact ⟨how, by omega, by omega, rfl, rfl⟩
  case rest =>
    obtain ⟨m, hm0, hm1, rfl, rfl⟩ := hcut
    obtain ⟨b0, b1, b2, b3⟩ := Rb6.out.cells
    have g0 := frozen_of_row wc (w.heap.size + 1) 0 _ _ Rb6.out.at_
    have g1 := frozen_of_row wc (w.heap.size + 1) 1 _ _ Rb6.out.at_
    have g2 := frozen_of_row wc (w.heap.size + 1) 2 _ _ Rb6.out.at_
    have g3 := frozen_of_row wc (w.heap.size + 1) 3 _ _ Rb6.out.at_
    rcases (show m % 4 = 0 ∨ m % 4 = 1 ∨ m % 4 = 2 ∨ m % 4 = 3 by omega) with hq | hq | hq | hq
    · obtain ⟨z, hz⟩ : ∃ z, z = bits .xor .i64 y 1 := ⟨_, rfl⟩
      have hzn : ¬ z = y := by rw [hz]; exact xor1_ne y hy.1 hy.2
      go_upto_region 15 with fail
      rw [← hz]
      obtain ⟨W7, hW7⟩ : ∃ W7, W7 = wc.setCell ⟨w.heap.size + 1, 3, none⟩ (.int .i64 z) := ⟨_, rfl⟩
      have hu7 : Upd (fun k => k = w.heap.size + 1) wc W7 := by rw [hW7]; exact (Upd.refl (fun k => k = w.heap.size + 1) wc).setCell (p := ⟨w.heap.size + 1, 3, none⟩) (fun _ => rfl) _
      have B7 := Lib.hid (below_upd B6.out B6.out.size hu7 (fun k e => by omega))
      have Ra7 := Lib.hid (show Rep W7 w.heap.size o A n c tt y L from ⟨(hu7.block _ (Array.getElem?_eq_some_iff.1 Ra6.out.at_).1 (by omega)).trans Ra6.out.at_, HR.out.below B7.out, HL.out⟩)
      have Rb7 := Lib.hid (show Rep W7 (w.heap.size + 1) o A3 n c3 tt z L from ⟨by rw [hW7, setCell_at Rb6.out.at_]; rfl, own_RC (own_upd O6.out hu7 (fun k hk e => by have := (O6.out.lt k hk).1; omega)), HL.out⟩)
      rw [← hW7]
      have hne1 : sameB o o tt tt y z L L = false := by
        unfold sameB
        rw [decide_eq_false_iff_not]
        rintro ⟨e1, _, e2, e3⟩
        exact hzn e3.symm
      have hne2 : sameB o o tt tt z y L L = false := by
        unfold sameB
        rw [decide_eq_false_iff_not]
        rintro ⟨e1, _, e2, e3⟩
        exact hzn e3
      clear hW7 hu7 hz hzn
      clear b0 b1 b2 b3 g0 g1 g2 g3
      obtain ⟨a0, a1, a2, a3⟩ := Ra7.out.cells
      obtain ⟨b0, b1, b2, b3⟩ := Rb7.out.cells
      have HNE1 := Lib.hid hne1
      have HNE2 := Lib.hid hne2
      clear hne1 hne2
      go_wp2_with fail
      refine (same_agg o o tt tt y z A A3 n c n c3 L L W7 false HNE1.out HL.out Rb7.out.len (by omega) (by omega) Ra7.out.rs Rb7.out.rs).mono ?_
      rintro e w8 ⟨rfl, hb8⟩
      have Ra8 := Lib.hid (Ra7.out.below hb8)
      have Rb8 := Lib.hid (Rb7.out.below hb8)
      have B8 := Lib.hid (below_below B7.out B7.out.size hb8)
      clear a0 a1 a2 a3 b0 b1 b2 b3 hb8
      obtain ⟨a0, a1, a2, a3⟩ := Ra8.out.cells
      obtain ⟨b0, b1, b2, b3⟩ := Rb8.out.cells
      go_wp2_with fail
      refine (same_agg o o tt tt z y A3 A n c3 n c L L w8 false HNE2.out Rb8.out.len HL.out (by omega) (by omega) Rb8.out.rs Ra8.out.rs).mono ?_
      rintro e w9 ⟨rfl, hb9⟩
      have B9 := Lib.hid (below_below B8.out B8.out.size hb9)
      clear a0 a1 a2 a3 b0 b1 b2 b3 hb9
      go_wp2_with fail
      refine (known21_any _).mono ?_
      rintro e w10 ⟨rfl, hb⟩
      have B10 := Lib.hid (below_below B9.out B9.out.size hb)
      clear hb
      go_wp2_with fail
      go_ret
      exact ⟨rfl, B10.out⟩
    · obtain ⟨z, hz⟩ : ∃ z, z = bits .xor .i64 tt 1 := ⟨_, rfl⟩
      have hzn : ¬ z = tt := by rw [hz]; exact xor1_ne tt ht.1 ht.2
      go_upto_region 15 with fail
      rw [← hz]
      obtain ⟨W7, hW7⟩ : ∃ W7, W7 = wc.setCell ⟨w.heap.size + 1, 2, none⟩ (.int .i64 z) := ⟨_, rfl⟩
      have hu7 : Upd (fun k => k = w.heap.size + 1) wc W7 := by rw [hW7]; exact (Upd.refl (fun k => k = w.heap.size + 1) wc).setCell (p := ⟨w.heap.size + 1, 2, none⟩) (fun _ => rfl) _
      have B7 := Lib.hid (below_upd B6.out B6.out.size hu7 (fun k e => by omega))
      have Ra7 := Lib.hid (show Rep W7 w.heap.size o A n c tt y L from ⟨(hu7.block _ (Array.getElem?_eq_some_iff.1 Ra6.out.at_).1 (by omega)).trans Ra6.out.at_, HR.out.below B7.out, HL.out⟩)
      have Rb7 := Lib.hid (show Rep W7 (w.heap.size + 1) o A3 n c3 z y L from ⟨by rw [hW7, setCell_at Rb6.out.at_]; rfl, own_RC (own_upd O6.out hu7 (fun k hk e => by have := (O6.out.lt k hk).1; omega)), HL.out⟩)
      rw [← hW7]
      have hne1 : sameB o o tt z y y L L = false := by
        unfold sameB
        rw [decide_eq_false_iff_not]
        rintro ⟨e1, _, e2, e3⟩
        exact hzn e2.symm
      have hne2 : sameB o o z tt y y L L = false := by
        unfold sameB
        rw [decide_eq_false_iff_not]
        rintro ⟨e1, _, e2, e3⟩
        exact hzn e2
      clear hW7 hu7 hz hzn
      clear b0 b1 b2 b3 g0 g1 g2 g3
      obtain ⟨a0, a1, a2, a3⟩ := Ra7.out.cells
      obtain ⟨b0, b1, b2, b3⟩ := Rb7.out.cells
      have HNE1 := Lib.hid hne1
      have HNE2 := Lib.hid hne2
      clear hne1 hne2
      go_wp2_with fail
      refine (same_agg o o tt z y y A A3 n c n c3 L L W7 false HNE1.out HL.out Rb7.out.len (by omega) (by omega) Ra7.out.rs Rb7.out.rs).mono ?_
      rintro e w8 ⟨rfl, hb8⟩
      have Ra8 := Lib.hid (Ra7.out.below hb8)
      have Rb8 := Lib.hid (Rb7.out.below hb8)
      have B8 := Lib.hid (below_below B7.out B7.out.size hb8)
      clear a0 a1 a2 a3 b0 b1 b2 b3 hb8
      obtain ⟨a0, a1, a2, a3⟩ := Ra8.out.cells
      obtain ⟨b0, b1, b2, b3⟩ := Rb8.out.cells
      go_wp2_with fail
      refine (same_agg o o z tt y y A3 A n c3 n c L L w8 false HNE2.out Rb8.out.len HL.out (by omega) (by omega) Rb8.out.rs Ra8.out.rs).mono ?_
      rintro e w9 ⟨rfl, hb9⟩
      have B9 := Lib.hid (below_below B8.out B8.out.size hb9)
      clear a0 a1 a2 a3 b0 b1 b2 b3 hb9
      go_wp2_with fail
      refine (known21_any _).mono ?_
      rintro e w10 ⟨rfl, hb⟩
      have B10 := Lib.hid (below_below B9.out B9.out.size hb)
      clear hb
      go_wp2_with fail
      go_ret
      exact ⟨rfl, B10.out⟩
    · go_wp2_with (at_builtin; refine append_any rfl _ _ 61 rfl (w.heap.size + 2) 9 _ 1 16 Try.underlying61 infoS rfl (by omega) (by omega) (.slice A3 n c3) n (sv L) rfl (World.ownsRow.alloc O6.out _) _ 1 _ (sv [[]]) rfl rfl (RC_newL wc (sv [[]]) 9) (sv_one _) ?c1 ?c2 ?_)
      case c1 => omega
      case c2 => have := B6.out.size; have := (Array.getElem?_eq_some_iff.1 Rb6.out.at_).1; simp; omega
      intro v7 w7 ho7 hg7 hv7
      obtain ⟨A7, c7, rfl, _⟩ := own_slice ho7
      have hu7 : Upd (fun k => (Value.slice A3 n c3).ownBlock = some k) wc w7 := ((Upd.refl (fun k => (Value.slice A3 n c3).ownBlock = some k) wc).alloc _).grown hg7 (fun k hk _ => hk)
      have hx7 := (hu7.block _ (Array.getElem?_eq_some_iff.1 Rb6.out.at_).1 (fun hk => by have := (O6.out.lt _ hk).1; omega)).trans Rb6.out.at_
      have ha7 := (hu7.block _ (Array.getElem?_eq_some_iff.1 Ra6.out.at_).1 (fun hk => by have := (O6.out.lt _ hk).1; omega)).trans Ra6.out.at_
      have f1 := frozen_of_row w7 (w.heap.size + 1) 1 _ _ hx7
      have q1 : w7.cell? ⟨w.heap.size + 1, 1, none⟩ = some (.slice A3 n c3) := (cell_of_row w7 _ 1 _ _ _ hx7).trans rfl
      have B7' := Lib.hid (below_upd B6.out B6.out.size hu7 (fun k hk => by have := (O6.out.lt k hk).1; omega))
      have HX7 := Lib.hid hx7
      have HA7 := Lib.hid ha7
      have O7 := Lib.hid (show w7.ownsRow (w.heap.size + 2) 9 1 (.slice A7 (n + 1) c7) (n + 1) (sv (L ++ [[]])) by rw [sv_append]; exact ho7)
      clear ho7 hg7 hv7 hu7 hx7 ha7
      go_upto_region 15 with fail
      obtain ⟨W7, hW7⟩ : ∃ W7, W7 = w7.setCell ⟨w.heap.size + 1, 1, none⟩ (.slice A7 (n + 1) c7) := ⟨_, rfl⟩
      have hu7 : Upd (fun k => k = w.heap.size + 1) w7 W7 := by rw [hW7]; exact (Upd.refl (fun k => k = w.heap.size + 1) w7).setCell (p := ⟨w.heap.size + 1, 1, none⟩) (fun _ => rfl) _
      have B7 := Lib.hid (below_upd B7'.out B7'.out.size hu7 (fun k e => by omega))
      have hll : (L ++ [[]]).length = n + 1 := by rw [List.length_append, HL.out]; rfl
      have Ra7 := Lib.hid (show Rep W7 w.heap.size o A n c tt y L from ⟨(hu7.block _ (Array.getElem?_eq_some_iff.1 HA7.out).1 (by omega)).trans HA7.out, HR.out.below B7.out, HL.out⟩)
      have Rb7 := Lib.hid (show Rep W7 (w.heap.size + 1) o A7 (n + 1) c7 tt y (L ++ [[]]) from ⟨by rw [hW7, setCell_at HX7.out]; rfl, own_RC (own_upd O7.out hu7 (fun k hk e => by have := (O7.out.lt k hk).1; omega)), hll⟩)
      rw [← hW7]
      have hne1 : sameB o o tt tt y y L (L ++ [[]]) = false := by
        unfold sameB
        rw [decide_eq_false_iff_not]
        rintro ⟨_, e1, _⟩
        have := congrArg List.length e1
        simp at this
      have hne2 : sameB o o tt tt y y (L ++ [[]]) L = false := by
        unfold sameB
        rw [decide_eq_false_iff_not]
        rintro ⟨_, e1, _⟩
        have := congrArg List.length e1
        simp at this
      clear hW7 hu7 hll f1 q1
      clear b0 b1 b2 b3 g0 g1 g2 g3
      obtain ⟨a0, a1, a2, a3⟩ := Ra7.out.cells
      obtain ⟨b0, b1, b2, b3⟩ := Rb7.out.cells
      have HNE1 := Lib.hid hne1
      have HNE2 := Lib.hid hne2
      clear hne1 hne2
      go_wp2_with fail
      refine (same_agg o o tt tt y y A A7 n c (n + 1) c7 L (L ++ [[]]) W7 false HNE1.out HL.out Rb7.out.len (by omega) (by omega) Ra7.out.rs Rb7.out.rs).mono ?_
      rintro e w8 ⟨rfl, hb8⟩
      have Ra8 := Lib.hid (Ra7.out.below hb8)
      have Rb8 := Lib.hid (Rb7.out.below hb8)
      have B8 := Lib.hid (below_below B7.out B7.out.size hb8)
      clear a0 a1 a2 a3 b0 b1 b2 b3 hb8
      obtain ⟨a0, a1, a2, a3⟩ := Ra8.out.cells
      obtain ⟨b0, b1, b2, b3⟩ := Rb8.out.cells
      go_wp2_with fail
      refine (same_agg o o tt tt y y A7 A (n + 1) c7 n c (L ++ [[]]) L w8 false HNE2.out Rb8.out.len HL.out (by omega) (by omega) Rb8.out.rs Ra8.out.rs).mono ?_
      rintro e w9 ⟨rfl, hb9⟩
      have B9 := Lib.hid (below_below B8.out B8.out.size hb9)
      clear a0 a1 a2 a3 b0 b1 b2 b3 hb9
      go_wp2_with fail
      refine (known21_any _).mono ?_
      rintro e w10 ⟨rfl, hb⟩
      have B10 := Lib.hid (below_below B9.out B9.out.size hb)
      clear hb
      go_wp2_with fail
      go_ret
      exact ⟨rfl, B10.out⟩
    · obtain ⟨z, hz⟩ : ∃ z, z = bits .xor .i64 o 1 := ⟨_, rfl⟩
      have hzn : ¬ z = o := by rw [hz]; exact xor1_ne o ho.1 ho.2
      go_upto_region 15 with fail
      rw [← hz]
      obtain ⟨W7, hW7⟩ : ∃ W7, W7 = wc.setCell ⟨w.heap.size + 1, 0, none⟩ (.int .i64 z) := ⟨_, rfl⟩
      have hu7 : Upd (fun k => k = w.heap.size + 1) wc W7 := by rw [hW7]; exact (Upd.refl (fun k => k = w.heap.size + 1) wc).setCell (p := ⟨w.heap.size + 1, 0, none⟩) (fun _ => rfl) _
      have B7 := Lib.hid (below_upd B6.out B6.out.size hu7 (fun k e => by omega))
      have Ra7 := Lib.hid (show Rep W7 w.heap.size o A n c tt y L from ⟨(hu7.block _ (Array.getElem?_eq_some_iff.1 Ra6.out.at_).1 (by omega)).trans Ra6.out.at_, HR.out.below B7.out, HL.out⟩)
      have Rb7 := Lib.hid (show Rep W7 (w.heap.size + 1) z A3 n c3 tt y L from ⟨by rw [hW7, setCell_at Rb6.out.at_]; rfl, own_RC (own_upd O6.out hu7 (fun k hk e => by have := (O6.out.lt k hk).1; omega)), HL.out⟩)
      rw [← hW7]
      have hne1 : sameB o z tt tt y y L L = false := by
        unfold sameB
        rw [decide_eq_false_iff_not]
        rintro ⟨e1, _, e2, e3⟩
        exact hzn e1.symm
      have hne2 : sameB z o tt tt y y L L = false := by
        unfold sameB
        rw [decide_eq_false_iff_not]
        rintro ⟨e1, _, e2, e3⟩
        exact hzn e1
      clear hW7 hu7 hz hzn
      clear b0 b1 b2 b3 g0 g1 g2 g3
      obtain ⟨a0, a1, a2, a3⟩ := Ra7.out.cells
      obtain ⟨b0, b1, b2, b3⟩ := Rb7.out.cells
      have HNE1 := Lib.hid hne1
      have HNE2 := Lib.hid hne2
      clear hne1 hne2
      go_wp2_with fail
      refine (same_agg o z tt tt y y A A3 n c n c3 L L W7 false HNE1.out HL.out Rb7.out.len (by omega) (by omega) Ra7.out.rs Rb7.out.rs).mono ?_
      rintro e w8 ⟨rfl, hb8⟩
      have Ra8 := Lib.hid (Ra7.out.below hb8)
      have Rb8 := Lib.hid (Rb7.out.below hb8)
      have B8 := Lib.hid (below_below B7.out B7.out.size hb8)
      clear a0 a1 a2 a3 b0 b1 b2 b3 hb8
      obtain ⟨a0, a1, a2, a3⟩ := Ra8.out.cells
      obtain ⟨b0, b1, b2, b3⟩ := Rb8.out.cells
      go_wp2_with fail
      refine (same_agg z o tt tt y y A3 A n c3 n c L L w8 false HNE2.out Rb8.out.len HL.out (by omega) (by omega) Rb8.out.rs Ra8.out.rs).mono ?_
      rintro e w9 ⟨rfl, hb9⟩
      have B9 := Lib.hid (below_below B8.out B8.out.size hb9)
      clear a0 a1 a2 a3 b0 b1 b2 b3 hb9
      go_wp2_with fail
      refine (known21_any _).mono ?_
      rintro e w10 ⟨rfl, hb⟩
      have B10 := Lib.hid (below_below B9.out B9.out.size hb)
      clear hb
      go_wp2_with fail
      go_ret
      exact ⟨rfl, B10.out⟩

end Go.Proofs.Ytiefgnmekikckaa
