/-
  The walk of the law NetKept.
-/
import Derived.Test.YtkpkimhpecbkoaaKnown5
import Derived.BigRegion
import Derived.Deep.QuietTactic
set_option linter.unusedVariables false
set_option linter.unusedSimpArgs false
namespace Go.Proofs.Ytkpkimhpecbkoaa
open Go.RowKit

theorem data_eq (s : ByteArray) : (⟨s.data.toList.toArray⟩ : ByteArray) = s := by
  cases s
  simp
/-- Block g has n bytes at its front that may be written. -/
def Row8 (w : World) (g n : Nat) : Prop :=
  ∃ cs t lo hi, w.heap[g]? = some (.cells cs t (lo, hi)) ∧ (n ≤ lo ∨ hi = 0) ∧ ∀ j, j < n → ∃ y : UInt8, cs[j]? = some (.int .u8 (un8 y))
theorem Row8.same {w w' : World} {g n : Nat} (h : Row8 w g n) (e : w'.heap[g]? = w.heap[g]?) : Row8 w' g n := by
  obtain ⟨cs, t, lo, hi, h1, h2⟩ := h
  exact ⟨cs, t, lo, hi, e.trans h1, h2⟩
theorem Row8.lt {w : World} {g n : Nat} (h : Row8 w g n) : g < w.heap.size := by
  obtain ⟨cs, t, lo, hi, h1, h2⟩ := h
  exact (Array.getElem?_eq_some_iff.1 h1).1
theorem Row8.cell {w : World} {g n : Nat} (h : Row8 w g n) (j : Nat) (hj : j < n) : (∃ y : UInt8, w.cell? ⟨g, j, none⟩ = some (.int .u8 (un8 y))) ∧ w.frozen? ⟨g, j, none⟩ = false := by
  obtain ⟨cs, t, lo, hi, h1, h2, h3⟩ := h
  obtain ⟨y, hy⟩ := h3 j hj
  refine ⟨⟨y, ?_⟩, ?_⟩
  · rw [cell_of_row w g j cs t (lo, hi) h1]
    exact hy
  · unfold World.frozen?
    simp only [h1]
    rcases h2 with h2 | h2
    · have : decide (lo ≤ j) = false := decide_eq_false (by omega)
      simp [this]
    · subst h2
      simp
theorem Row8.set {w : World} {g n : Nat} (h : Row8 w g n) (j : Nat) (y : UInt8) : Row8 (w.setCell ⟨g, j, none⟩ (.int .u8 (un8 y))) g n := by
  obtain ⟨cs, t, lo, hi, h1, h2, h3⟩ := h
  refine ⟨_, t, lo, hi, setCell_at h1 _, h2, fun q hq => ?_⟩
  obtain ⟨y0, h0⟩ := h3 q hq
  by_cases e : q = j
  · subst e
    exact ⟨y, by rw [Array.getElem?_setIfInBounds_self_of_lt (Array.getElem?_eq_some_iff.1 h0).1]⟩
  · exact ⟨y0, by rw [Array.getElem?_setIfInBounds_ne (fun h => e h.symm)]; exact h0⟩
theorem Row8.own {w : World} {B g n c : Nat} {l : List UInt8} {e : TypeId} (h : w.ownsRow B e 1 (.slice (some ⟨g, 0, none⟩) n c) n (bv l)) : Row8 w g n := by
  rcases h.2 with ⟨h', _⟩ | ⟨g', cap', cur, h', hb, hg, hnc, hcm, hcs, ht'⟩
  · cases h'
  · cases h'
    refine ⟨cur, e, 0, 0, hg, .inr rfl, fun j hj => ?_⟩
    have hl := h.1
    rw [bv_length, Nat.mul_one] at hl
    have h1 : (bv l)[j]? = some (B8 (l[j]'(by omega))) := bv_get l j (by omega)
    rw [← ht', Nat.mul_one, List.getElem?_take, if_pos hj] at h1
    exact ⟨_, by simpa [B8] using h1⟩
theorem Row8.bytes (w : World) (e : TypeId) (s : ByteArray) : Row8 (Lib.bytesWorld w e s) w.heap.size s.size := by
  refine ⟨_, _, _, _, Lib.bytesWorld_at_new w e s, .inl (by simp [Lib.bytesCells]), fun j hj => ?_⟩
  have h := bytes_RB w e s
  obtain ⟨ad, e1, h1⟩ := h (by rw [data_length]; omega)
  cases e1
  have h2 := h1 j (by rw [data_length]; exact hj)
  rw [add_plain, cell_of_row _ _ _ _ _ _ (Lib.bytesWorld_at_new w e s)] at h2
  exact ⟨_, h2⟩

/-- What the loops that write a body leave. -/
structure Wrote (w5 w : World) (A : Option Addr) (n : Nat) : Prop where
  upd : Upd (fun k => ∃ ad, A = some ad ∧ k = ad.block) w5 w
  row : 0 < n → ∃ g, A = some ⟨g, 0, none⟩ ∧ Row8 w g n
theorem Wrote.start {w : World} {B n c : Nat} {A : Option Addr} {l : List UInt8} (h : w.ownsRow B 5 1 (.slice A n c) n (bv l)) : Wrote w w A n := by
  refine ⟨Upd.refl _ _, fun h0 => ?_⟩
  obtain ⟨g, c', e, _⟩ := own_form h h0
  cases e
  exact ⟨g, rfl, Row8.own h⟩
theorem Wrote.set {w5 w : World} {g n : Nat} (h : Wrote w5 w (some ⟨g, 0, none⟩) n) (h0 : 0 < n) (j : Nat) (y : UInt8) : Wrote w5 (w.setCell ⟨g, j, none⟩ (.int .u8 (un8 y))) (some ⟨g, 0, none⟩) n := by
  refine ⟨Upd.setCell h.upd (p := ⟨g, j, none⟩) (fun _ => ⟨⟨g, 0, none⟩, rfl, rfl⟩) _, fun _ => ?_⟩
  obtain ⟨g', e, hr⟩ := h.row h0
  cases e
  exact ⟨g, rfl, hr.set j y⟩
theorem Wrote.drew {w5 w : World} {A : Option Addr} {n : Nat} (h : Wrote w5 w A n) : Wrote w5 w.drew A n :=
  ⟨h.upd.drew, fun h0 => by obtain ⟨g, e, hr⟩ := h.row h0; exact ⟨g, e, hr.same rfl⟩⟩
theorem Wrote.drewN {w5 w : World} {A : Option Addr} {n : Nat} (h : Wrote w5 w A n) (k : Nat) : Wrote w5 (w.drewN k) A n :=
  ⟨h.upd.drewN k, fun h0 => by obtain ⟨g, e, hr⟩ := h.row h0; exact ⟨g, e, hr.same rfl⟩⟩

/-- A net that lies below block q. -/
def NtLow (w : World) (B p : Nat) (v : Value) (nodes sent : Int) (l : List Pl) (q : Nat) : Prop := ∃ L, NetAt w B p v nodes sent L ∧ L.map Ms.plain = l ∧ (∀ m ∈ L, m.off (fun k => q ≤ k)) ∧ ∀ k, nfoot p v k → k < q
theorem NtLow.nt {w : World} {B p q : Nat} {v : Value} {nodes sent : Int} {l : List Pl} (h : NtLow w B p v nodes sent l q) : Nt w B p v nodes sent l := by
  obtain ⟨L, h1, h2, _⟩ := h
  exact ⟨L, h1, h2⟩
theorem NtLow.upd {F : Nat → Prop} {w w' : World} {B p q : Nat} {v : Value} {nodes sent : Int} {l : List Pl} (h : NtLow w B p v nodes sent l q) (u : Upd F w w') (hF : ∀ k, F k → q ≤ k) : NtLow w' B p v nodes sent l q := by
  obtain ⟨L, h1, h2, h3, h4⟩ := h
  exact ⟨L, h1.upd u (fun k hk hf => by have := h4 k hk; have := hF k hf; omega) (fun m hm => Ms.off_mono (h3 m hm) hF), h2, h3, h4⟩
theorem take_low {w : World} {B p : Nat} {v : Value} {nodes sent : Int} {l : List Pl} (h : Nt w B p v nodes sent l) (k : Int) (f t : Int) (b : List UInt8) (hq : l[placeOf k l.length]? = some (f, t, b)) (hk0 : -9223372036854775808 ≤ k) (hk1 : k ≤ 9223372036854775807) :
    Calls Try.prog 31 #[.pointer (some ⟨p, 0, none⟩), .int .i64 k] w fun e w' => ∃ A c v', e = .returned (.tuple #[.agg #[.int .i64 f, .int .i64 t, .slice A b.length c], .bool true]) ∧ NtLow w' B p v' nodes sent (l.eraseIdx (placeOf k l.length)) w.heap.size ∧ Upd (nfoot p v) w w' ∧ Got w f t A c b w' := by
  obtain ⟨L, h, rfl⟩ := h
  rw [List.length_map] at hq ⊢
  have h0 : 0 < L.length := by
    cases L with
    | nil => simp at hq
    | cons m L => simp
  refine (netTake_any k w B p v nodes sent L h h0 hk0 hk1).mono ?_
  rintro e w' ⟨f', t', A, c, b', rfl, ht⟩
  obtain ⟨hi, m1, m2, m3⟩ := ht.msg
  have hx : (f', t', b') = (f, t, b) := by
    rw [List.getElem?_map, List.getElem?_eq_getElem hi] at hq
    simp only [Option.map_some, Option.some.injEq, Ms.plain] at hq
    rw [m1, m2, m3, hq]
  simp only [Prod.mk.injEq] at hx
  obtain ⟨rfl, rfl, rfl⟩ := hx
  obtain ⟨v', hv', hn⟩ := ht.net
  refine ⟨A, c, v', rfl, ⟨_, hn, map_eraseIdx' _ _, fun m hm h0 ad e hk => ?_, fun k hk => ?_⟩, ht.upd, ht.body, ht.own, ht.new⟩
  · have := (h.body m (List.mem_of_mem_eraseIdx hm)).1.lt h0 ad e
    omega
  · exact h.foot_lt k (by
      rcases hk with hk | hk
      · exact .inl hk
      · exact .inr (hv' ▸ hk))

set_option maxRecDepth 100000 in
set_option maxHeartbeats 16000000 in
theorem netKept_any (s : ByteArray) (w : World) (hs : s.size ≤ 140737488351232) :
    Calls Try.prog 8 #[.string s] w fun e w' => e = .returned (.bool true) ∧ Below w.heap.size w w' := by
  have kb := fun W => Lib.run_convert_string_bytes (P := Try.prog) W 9 41 5 s Try.underlying9 Try.underlying41 Try.underlying5
  have HS := Lib.hid hs
  clear hs
  go_enter Try.func8, Try.ntmps8
  go_wp2_with fail
  refine (netNew_any 1 _ (by omega) (by omega)).mono ?_
  rintro e w1 ⟨rfl, hn1, hb1⟩
  have h1 := hn1.lt
  have hgb0 := hb1.size
  have N2 := Lib.hid (show NtOff (Lib.bytesWorld w1 5 s) w.heap.size w.heap.size (.slice none 0 0) 1 0 [] w1.heap.size from
    ⟨[], hn1.below (bytes_below (Below.refl _ _) (Nat.le_refl _) _ _), rfl, (fun m hm => by cases hm), (fun h => by
      rcases h with h | h
      · omega
      · cases h)⟩)
  have B2 := Lib.hid (bytes_below hb1 hb1.size 5 s)
  have R2 := Lib.hid (Row8.bytes w1 5 s)
  have RB2 := Lib.hid (bytes_RB w1 5 s)
  obtain ⟨W2, hW2⟩ : ∃ W2, W2 = Lib.bytesWorld w1 5 s := ⟨_, rfl⟩
  rw [← hW2] at N2 B2 R2 RB2
  clear hn1 hb1
  go_upto_region 5 with fail
  rw [← hW2]
  obtain ⟨cp, hcp⟩ : ∃ cp, cp = grownCap w1 s.size 0 5 := ⟨_, rfl⟩
  rw [← hcp]
  clear hcp hW2 kb
  generalize w1.heap.size = g at *
  go_wp2_with fail
  have hlen : s.data.toList.length = s.size := data_length s
  refine (send_off N2.out R2.out.lt 0 0 (some ⟨g, 0, none⟩) s.size cp s.data.toList hlen (by rw [hlen]; have := HS.out; omega) RB2.out (fun h => by cases h) (by omega) (by omega) (by omega) (by omega) (by simp) (by omega) (by omega)).mono ?_
  rintro e w3 ⟨v3, rfl, hn3, hu3⟩
  have R3 := Lib.hid (R2.out.same (hu3.block g R2.out.lt (by obtain ⟨_, _, _, _, h⟩ := N2.out; exact h)))
  have B3 := Lib.hid (N2.out.nt.goes B2.out hu3)
  have N3 := Lib.hid (show NtOff w3 w.heap.size w.heap.size v3 1 1 [(0, 0, s.data.toList)] g from hn3)
  clear hn3 hu3 N2 B2 R2 RB2 hlen
  go_wp2_with fail
  refine (twice_off N3.out R3.out.lt 0 (0, 0, s.data.toList) rfl (by simp) (by omega) (by omega)).mono ?_
  rintro e w4 ⟨v4, rfl, hn4, hu4⟩
  have R4 := Lib.hid (R3.out.same (hu4.block g R3.out.lt (by obtain ⟨_, _, _, _, h⟩ := N3.out; exact h)))
  have B4 := Lib.hid (N3.out.nt.goes B3.out hu4)
  have N4 := Lib.hid (show NtOff w4 w.heap.size w.heap.size v4 1 1 [(0, 0, s.data.toList), (0, 0, s.data.toList)] g from hn4)
  have hgb : w.heap.size ≤ g := hgb0
  clear hn4 hu4 N3 B3 R3
  go_wp2_with fail
  go_loopg [6] s.size (fun k s6 wr => ∃ i : Nat, i ≤ s.size ∧ k = s.size - i ∧ s6 = .int .i64 (i : Int) ∧ Row8 wr g s.size ∧ NtOff wr w.heap.size w.heap.size v4 1 1 [(0, 0, s.data.toList), (0, 0, s.data.toList)] g ∧ Below w.heap.size w wr)
  case atStart => exact ⟨0, Nat.zero_le _, by omega, rfl, R4.out, N4.out, B4.out⟩
  case round =>
    obtain ⟨i, hi, hk, rfl, hr, hn, hb⟩ := hrel
    have HK := Lib.hid hk
    have HR := Lib.hid hr
    have HN := Lib.hid hn
    have HB := Lib.hid hb
    clear hk hr hn hb R4 N4 B4
    by_cases hlt : i < s.size
    · obtain ⟨⟨y0, hc⟩, hf⟩ := HR.out.cell i hlt
      obtain ⟨y, hy⟩ := un8_add y0 1
      have HY := Lib.hid hy
      have HLT := Lib.hid hlt
      have hib : (i : Int) ≤ 140737488351232 := by have := HS.out; omega
      clear hy
      go_wp2_with fail
      rw [HY.out]
      go_roundg (s.size - (i + 1))
      case measure => have := HK.out; have := HLT.out; omega
      case rel => exact ⟨i + 1, HLT.out, rfl, by go_num, HR.out.set i y, HN.out.upd (Upd.setCell (Upd.refl (fun k => k = g) wr) (p := ⟨g, i, none⟩) (fun _ => rfl) _), HB.out.setCell hgb _⟩
    · have hge : s.size ≤ i := by omega
      have hdec : decide (i < s.size) = false := decide_eq_false (by omega)
      have N5 := Lib.hid HN.out.nt
      have B5 := Lib.hid HB.out
      clear HN HB HR HK hlt
      go_wp2_with fail
      refine (pending_plain N5.out).mono ?_
      rintro e w6 ⟨x, M, rfl, hm, ho, hf, hb⟩
      have N6 := Lib.hid (N5.out.below hb)
      have B6 := Lib.hid (below_below B5.out B5.out.size hb)
      have BP := Lib.hid hb
      obtain ⟨m0, M', rfl⟩ : ∃ m0 M', M = m0 :: M' := by
        cases M with
        | nil => cases hm
        | cons m0 M' => exact ⟨m0, M', rfl⟩
      obtain ⟨f0, t0, A0, c0, b0⟩ := m0
      simp only [List.map_cons, Ms.plain, List.cons.injEq, Prod.mk.injEq] at hm
      obtain ⟨⟨rfl, rfl, rfl⟩, -⟩ := hm
      obtain ⟨hf0, hne0⟩ := hf _ (List.mem_cons_self ..)
      obtain ⟨gx, cx, rfl, hbx, _⟩ := own_form ho (by simp)
      have hown0 := hf0.own
      have hnew0 := hf0.lt
      have q2 := ho.cellAt 2 (by simp [mcells])
      simp only [data_length] at hown0 q2 hnew0
      have Q2 := Lib.hid (show w6.cell? ⟨gx, 2, none⟩ = some (.slice A0 s.size c0) by
        have h := q2
        simp only [mcells, List.flatMap_cons, Ms.cells, data_length] at h
        simpa using h)
      have hgx : gx < w6.heap.size := ho.lt gx rfl |>.2
      have K6 := Lib.hid (Wrote.start hown0)
      have HA := Lib.hid (show ∀ ad, A0 = some ad → wr.heap.size ≤ ad.block ∧ ad.block < w6.heap.size ∧ ad.block ≠ gx from fun ad e => ⟨(hnew0 ad e).1, (hnew0 ad e).2, fun h => hne0 ad e (by rw [h]; rfl)⟩)
      clear ho hf hb hf0 hne0 hown0 hnew0 q2
      obtain ⟨l0, hl0⟩ : ∃ l0, l0 = ([(0, 0, s.data.toList), (0, 0, s.data.toList)] : List Pl) := ⟨_, rfl⟩
      rw [← hl0] at N5 N6 

      go_wp2_with fail
      go_loopg [8] s.size (fun k s8 wy => ∃ q : Nat, q ≤ s.size ∧ k = s.size - q ∧ s8 = .int .i64 (q : Int) ∧ Wrote w6 wy A0 s.size)
      case atStart => exact ⟨0, Nat.zero_le _, by omega, rfl, K6.out⟩
      case round =>
        obtain ⟨q, hq, hk, rfl, hw⟩ := hrel
        have HK2 := Lib.hid hk
        have HW := Lib.hid hw
        have hxs : wr.heap[gx]? = w6.heap[gx]? := hw.upd.block gx hgx (fun ⟨ad, e, h⟩ => (HA.out ad e).2.2 h.symm)
        have z2 : wr.cell? ⟨gx, 2, none⟩ = some (.slice A0 s.size c0) := by
          rw [← Q2.out]
          unfold World.cell?
          simp only [hxs]
        clear hk hw hxs
        by_cases hlt : q < s.size
        · obtain ⟨g2, rfl, hr⟩ := HW.out.row (by omega)
          obtain ⟨⟨y0, hc⟩, hf⟩ := hr.cell q hlt
          obtain ⟨y, hy⟩ := un8_add y0 2
          have HY := Lib.hid hy
          have HLT := Lib.hid hlt
          have hib : (q : Int) ≤ 140737488351232 := by have := HS.out; omega
          have q0 : (0 : Int) ≤ (q : Int) := by omega
          have q1 : (q : Int) < (s.size : Int) := by omega
          clear hy hr
          go_upto_region 17 with fail
          go_region
          go_wp2_with fail
          go_roundg (s.size - (q + 1))
          case measure => have := HK2.out; have := HLT.out; omega
          case rel =>
            rw [HY.out]
            exact ⟨q + 1, HLT.out, rfl, by go_num, (HW.out.set (by have := HLT.out; omega) q y).drew⟩
        · have hge2 : s.size ≤ q := by omega
          have hdec2 : decide (q < s.size) = false := decide_eq_false (by omega)
          have N7 := Lib.hid (N5.out.upd_new BP.out HW.out.upd (Nat.le_refl _) (fun k ⟨ad, e, h⟩ => by have := (HA.out ad e).1; omega))
          have B7 := Lib.hid (below_upd B6.out B6.out.size HW.out.upd (fun k ⟨ad, e, h⟩ => by have := (HA.out ad e).1; have := B5.out.size; omega))
          have HL0 := Lib.hid hl0
          clear HW HK2 K6 N6 hlt hl0
          go_wp2_with fail
          refine (take_low N7.out 0 0 0 s.data.toList (by rw [HL0.out]; rfl) (by omega) (by omega)).mono ?_
          rw [show l0.eraseIdx (placeOf 0 l0.length) = [(0, 0, s.data.toList)] by rw [HL0.out]; rfl]
          rintro e w9 ⟨A9, c9, v9, rfl, hn9, hu9, hg9⟩
          rw [data_length]
          have hown9 := hg9.own
          have hnew9 := hg9.new
          have hrb9 := hg9.body.r
          rw [data_length] at hown9
          have B9 := Lib.hid (N7.out.goes B7.out hu9)
          have N9 := Lib.hid hn9
          have SQ := Lib.hid hu9.size
          obtain ⟨W, hW⟩ : ∃ W, W = w9.alloc (.cells #[.int .i64 0, .int .i64 0, .slice A9 s.size c9] 47) := ⟨_, rfl⟩
          have bel : Below w9.heap.size w9 W := by rw [hW]; exact (Below.refl _ _).alloc (Nat.le_refl _) _
          have hWc : W.heap[w9.heap.size]? = some (.cells #[.int .i64 0, .int .i64 0, .slice A9 s.size c9] 47 (0, 0)) := by rw [hW]; exact heap_alloc_new _ _
          have B10 := Lib.hid (below_below B9.out B9.out.size bel)
          have N10 := Lib.hid (N9.out.upd (Upd.of_below (F := fun _ => False) bel) (fun k h => h.elim))
          have K10 := Lib.hid (Wrote.start (own_below hown9 bel))
          have s1 := run_string_RB (P := Try.prog) W 41 9 5 Try.underlying41 Try.underlying5 Try.underlying9 A9 s.size c9 s.data.toList (data_length s) (hrb9.below bel)
          rw [data_eq] at s1
          have y2 : W.cell? ⟨w9.heap.size, 2, none⟩ = some (.slice A9 s.size c9) := (cell_of_row W _ 2 _ _ _ hWc).trans rfl
          have HWC := Lib.hid hWc
          have HA9 := Lib.hid (show ∀ ad, A9 = some ad → wr.heap.size ≤ ad.block ∧ ad.block < w9.heap.size from fun ad e => ⟨hnew9 ad e, by subst e; exact (hown9.lt ad.block rfl).2⟩)
          clear hn9 hu9 hg9 hown9 hnew9 hrb9 hWc
          go_upto_region 19 with fail
          rw [← hW]
          have SZ := Lib.hid bel.size
          clear hW bel
          generalize w9.heap.size = gm at *
          go_wp2_with fail
          go_loopg [11] s.size (fun k s11 wz => ∃ q : Nat, q ≤ s.size ∧ k = s.size - q ∧ s11 = .int .i64 (q : Int) ∧ Wrote W wz A9 s.size)
          case atStart => exact ⟨0, Nat.zero_le _, by omega, rfl, K10.out⟩
          case round =>
            obtain ⟨q2, hq2, hk2, rfl, hw2⟩ := hrel
            have HK3 := Lib.hid hk2
            have HW3 := Lib.hid hw2
            have hgm := (Array.getElem?_eq_some_iff.1 HWC.out).1
            have hxs : wr.heap[gm]? = W.heap[gm]? := hw2.upd.block gm hgm (fun ⟨ad, e, h⟩ => by have := (HA9.out ad e).2; omega)
            have hx3 := hxs.trans HWC.out
            have z3 : wr.cell? ⟨gm, 2, none⟩ = some (.slice A9 s.size c9) := (cell_of_row wr _ 2 _ _ _ hx3).trans rfl
            have HX3 := Lib.hid hx3
            clear hk2 hw2 hxs hx3 y2 s1
            by_cases hlt : q2 < s.size
            · obtain ⟨g2, rfl, hr⟩ := HW3.out.row (by omega)
              obtain ⟨⟨y0, hc⟩, hf⟩ := hr.cell q2 hlt
              obtain ⟨y, hy⟩ := un8_add y0 3
              have HY := Lib.hid hy
              have HLT := Lib.hid hlt
              have hib : (q2 : Int) ≤ 140737488351232 := by have := HS.out; omega
              have q0 : (0 : Int) ≤ (q2 : Int) := by omega
              have q1 : (q2 : Int) < (s.size : Int) := by omega
              clear hy hr
              go_upto_region 24 with fail
              go_region
              go_wp2_with fail
              go_roundg (s.size - (q2 + 1))
              case measure => have := HK3.out; have := HLT.out; omega
              case rel =>
                rw [HY.out]
                exact ⟨q2 + 1, HLT.out, rfl, by go_num, (HW3.out.set (by have := HLT.out; omega) q2 y).drew⟩
            · have hge3 : s.size ≤ q2 := by omega
              have hdec3 : decide (q2 < s.size) = false := decide_eq_false (by omega)
              have N11 := Lib.hid (N10.out.upd HW3.out.upd (fun k ⟨ad, e, h⟩ => by have := (HA9.out ad e).1; omega)).nt
              have B11 := Lib.hid (below_upd B10.out B10.out.size HW3.out.upd (fun k ⟨ad, e, h⟩ => by have := (HA9.out ad e).1; have := B7.out.size; omega))
              go_wp2_with fail
              refine (take_low N11.out 0 0 0 s.data.toList rfl (by omega) (by omega)).mono ?_
              rintro e w12 ⟨A12, c12, v12, rfl, hn12, hu12, hg12⟩
              rw [data_length]
              have B12 := Lib.hid (N11.out.goes B11.out hu12)
              have hx12 := (hu12.block gm (Array.getElem?_eq_some_iff.1 HX3.out).1 (fun hk => by
                have h1 := (N10.out).choose_spec.2.2.2 gm (by exact hk)
                have h2 := SQ.out
                omega)).trans HX3.out
              have hrb12 := hg12.body.r
              go_upto_region 26 with fail
              obtain ⟨V, hV⟩ : ∃ V, V = w12.alloc (.cells #[.int .i64 0, .int .i64 0, .slice A12 s.size c12] 47) := ⟨_, rfl⟩
              have bel : Below w12.heap.size w12 V := by rw [hV]; exact (Below.refl _ _).alloc (Nat.le_refl _) _
              have hVc : V.heap[w12.heap.size]? = some (.cells #[.int .i64 0, .int .i64 0, .slice A12 s.size c12] 47 (0, 0)) := by rw [hV]; exact heap_alloc_new _ _
              have B13 := Lib.hid (below_below B12.out B12.out.size bel)
              have s1 := run_string_RB (P := Try.prog) V 41 9 5 Try.underlying41 Try.underlying5 Try.underlying9 A12 s.size c12 s.data.toList (data_length s) (hrb12.below bel)
              rw [data_eq] at s1
              have y2 : V.cell? ⟨w12.heap.size, 2, none⟩ = some (.slice A12 s.size c12) := (cell_of_row V _ 2 _ _ _ hVc).trans rfl
              have x2 : V.cell? ⟨gm, 2, none⟩ = some (.slice A9 s.size c9) := (cell_of_row V _ 2 _ _ _ ((bel.block gm (Array.getElem?_eq_some_iff.1 hx12).1).trans hx12)).trans rfl
              rw [← hV]
              clear hV bel hVc hrb12 hx12 hn12 hu12 hg12 z3
              go_wp2_with fail
              refine (known5_any _).mono ?_
              rintro e w8 ⟨rfl, hb⟩
              have B8 := Lib.hid (below_below B13.out B13.out.size hb)
              clear hb
              go_wp2_with fail
              go_ret
              exact ⟨rfl, B8.out⟩

end Go.Proofs.Ytkpkimhpecbkoaa
