/-
  The walk of the law DiskPlays.
-/
import Derived.Test.YtiefgnmekikckaaKnown4
import Derived.Test.YtiefgnmekikckaaRefDisk
import Derived.Test.YtiefgnmekikckaaBook
import Derived.Test.YtiefgnmekikckaaArgs
import Derived.Test.YtiefgnmekikckaaOutline
import Derived.Deep.SlicePairs
import Derived.Deep.CutBlock
set_option linter.unusedVariables false
set_option linter.unusedSimpArgs false
namespace Go.Proofs.Ytiefgnmekikckaa
open Go.RowKit

/-- A slice of calls that reads as L. -/
def RA (w : World) (A : Option Addr) (L : List (Int × Int × List UInt8)) : Prop :=
  0 < L.length → ∃ ad, A = some ad ∧ ∀ i (h : i < L.length), ∃ Ai ci, w.cell? (ad.add (i * 3)) = some (.int .i64 L[i].1) ∧ w.cell? (ad.add (i * 3 + 1)) = some (.int .i64 L[i].2.1) ∧ w.cell? (ad.add (i * 3 + 2)) = some (.slice Ai L[i].2.2.length ci) ∧
    L[i].2.2.length ≤ ci ∧ ci ≤ maxLen ∧ RB w Ai L[i].2.2 ∧ (-9223372036854775808 ≤ L[i].2.1 ∧ L[i].2.1 ≤ 9223372036854775807) ∧ (-9223372036854775808 ≤ L[i].1 ∧ L[i].1 ≤ 9223372036854775807)

section
open Go.ChangeShapes Go.WideShapes Go.ChangeAt Go.Deep
variable {H : Type} {enc : TypeId × Value → H} {w : World}

theorem cell_bytes {fuel : Nat} {v : Value} {x : DataW H × List MemPlace} (hf : DataW.trod enc Try.prog w 0 (fun _ => true) true fuel 22 [v] = some x) :
    ∃ A c, ∃ l : List UInt8, v = .slice A l.length c ∧ l.length ≤ c ∧ c ≤ maxLen ∧ RB w A l := by
  rcases open_ints Try.underlying22 Try.underlying5 (by kernel_rfl) hf with ⟨hcs, _⟩ | ⟨a, l, c, zs, hcs, _, hl, hm, hz, _, hcell, hwz⟩
  · simp at hcs
    exact ⟨none, 0, [], hcs, by simp, by simp [maxLen], RB.nil _ _⟩
  · simp at hcs
    simp only [if_true] at hz
    obtain ⟨l', h1, h2⟩ := bytes_of (w := w) (A := some a) hl hz hwz (fun h => by cases h) (fun a' h i hi => by cases h; exact hcell i (by omega))
    exact ⟨some a, c, l', by rw [h1]; exact hcs, by omega, hm, h2⟩
theorem cell_int {fuel : Nat} {v : Value} {x : DataW H × List MemPlace} (hf : DataW.trod enc Try.prog w 0 (fun _ => true) true fuel 3 [v] = some x) :
    ∃ n : Int, v = .int .i64 n ∧ -9223372036854775808 ≤ n ∧ n ≤ 9223372036854775807 := by
  obtain ⟨n, h1, h2, h3⟩ := DataW.trod_int Try.underlying3 hf
  have hw := wf64 h3
  exact ⟨n, by simpa using h1, hw.1, hw.2⟩

theorem arg_asks {fuel len cap : Nat} {A : Option Addr} {x : DataW H × List MemPlace}
    (hf : DataW.trod enc Try.prog w 0 (fun _ => true) true fuel 42 (Value.slice A len cap).cells.toList = some x) : ∃ L : List (Int × Int × List UInt8), L.length = len ∧ len ≤ cap ∧ cap ≤ maxLen ∧ RA w A L := by
  rcases open_slice Try.underlying42 hf with ⟨hcs, _⟩ | ⟨a, l, c, m, n, D, Pl, hcs, _, hl, hm, hmm, _, hx⟩
  · simp [Value.cells] at hcs
    obtain ⟨rfl, rfl, rfl⟩ := hcs
    exact ⟨[], rfl, Nat.le_refl _, by simp [maxLen], fun h => absurd h (by simp)⟩
  · simp [Value.cells] at hcs
    obtain ⟨rfl, rfl, rfl⟩ := hcs
    simp only [if_true] at hmm
    have ce : Try.prog.cellsOf 47 = 3 := by kernel_rfl
    have each : ∀ i, i < len → ∃ q : (Int × Int × List UInt8) × Option Addr × Nat, w.cell? (a.add (i * 3)) = some (.int .i64 q.1.1) ∧ w.cell? (a.add (i * 3 + 1)) = some (.int .i64 q.1.2.1) ∧ w.cell? (a.add (i * 3 + 2)) = some (.slice q.2.1 q.1.2.2.length q.2.2) ∧
        q.1.2.2.length ≤ q.2.2 ∧ q.2.2 ≤ maxLen ∧ RB w q.2.1 q.1.2.2 ∧ (-9223372036854775808 ≤ q.1.2.1 ∧ q.1.2.1 ≤ 9223372036854775807) ∧ (-9223372036854775808 ≤ q.1.1 ∧ q.1.1 ≤ 9223372036854775807) := by
      intro i hi
      obtain ⟨cs', h1, h2⟩ := hx i (by omega)
      rw [ce] at h1
      obtain ⟨_, hlen, hcell⟩ := World.cells?_some h1
      obtain ⟨xs, k, hk, hxy, _, hxl, hfd⟩ := DataW.trod_struct Try.underlying47 h2
      match xs, hxl, cs', hlen with
      | [y0, y1, y2], _, [v0, v1, v2], _ =>
        have g0 := hfd 0 _ rfl
        have g1 := hfd 1 _ rfl
        have g2 := hfd 2 _ rfl
        have ci : Try.prog.cellsOf 3 = 1 := by kernel_rfl
        have cb : Try.prog.cellsOf 22 = 1 := by kernel_rfl
        simp [ci, cb] at g0 g1 g2
        have e0 := hcell 0 (by omega)
        have e1 := hcell 1 (by omega)
        have e2 := hcell 2 (by omega)
        rw [Go.Deep.add_add] at e0 e1 e2
        obtain ⟨k0, rfl, r0⟩ := cell_int g0
        obtain ⟨k1, rfl, r1⟩ := cell_int g1
        obtain ⟨A2, c2, l2, rfl, r2, r3, r4⟩ := cell_bytes g2
        exact ⟨((k0, k1, l2), A2, c2), by simpa using e0, by simpa using e1, by simpa using e2, r2, r3, r4, r1, r0⟩
    obtain ⟨q, hq⟩ := choose_lt each
    refine ⟨(List.range len).map fun i => (q i).1, by simp, hl, hm, fun _ => ⟨a, rfl, fun i hi => ?_⟩⟩
    have hi' : i < len := by simpa using hi
    have e : ((List.range len).map fun i => (q i).1)[i] = (q i).1 := by simp
    rw [e]
    exact ⟨(q i).2.1, (q i).2.2, hq i hi'⟩
end

/-- Both disks, apart. -/
structure PairAt (w : World) (B p q : Nat) (v u : Value) (b : List UInt8) (safe : Nat) (b' : List UInt8) (safe' : Nat) : Prop where
  d : DiskAt w B p v b safe
  r : RDiskAt w B q u b' safe'
  n1 : p ≠ q
  n2 : v.ownBlock ≠ some q
  n3 : u.ownBlock ≠ some p
  n4 : ∀ k, v.ownBlock = some k → u.ownBlock ≠ some k
namespace PairAt
variable {w w' : World} {B p q : Nat} {v u : Value} {b b' : List UInt8} {safe safe' : Nat}
theorem below (h : PairAt w B p q v u b safe b' safe') (hb : Below w.heap.size w w') : PairAt w' B p q v u b safe b' safe' := ⟨h.d.below hb, h.r.below hb, h.n1, h.n2, h.n3, h.n4⟩
theorem drew (h : PairAt w B p q v u b safe b' safe') : PairAt w.drew B p q v u b safe b' safe' := ⟨h.d.drew, h.r.drew, h.n1, h.n2, h.n3, h.n4⟩
theorem disk {v2 : Value} {b2 : List UInt8} {s2 : Nat} (h : PairAt w B p q v u b safe b' safe') (hd : DiskAt w' B p v2 b2 s2) (hu : Upd (DiskAt.foot p v) w w') (hv : v2.ownBlock = v.ownBlock ∨ v2.ownBlock = some w.heap.size) : PairAt w' B p q v2 u b2 s2 b' safe' := by
  refine ⟨hd, h.r.upd hu ?_ ?_, h.n1, ?_, h.n3, ?_⟩
  · rintro (e | e)
    · exact h.n1 e.symm
    · exact h.n2 e
  · rintro k hk (e | e)
    · exact h.n3 (e ▸ hk)
    · exact h.n4 k e hk
  · rcases hv with e | e
    · rw [e]; exact h.n2
    · rw [e]; intro e2; cases e2; exact absurd h.r.lt (Nat.lt_irrefl _)
  · intro k hk e2
    rcases hv with e | e
    · exact h.n4 k (e ▸ hk) e2
    · rw [e] at hk; cases hk; exact absurd (h.r.own.lt _ e2).2 (Nat.lt_irrefl _)
theorem ref {u2 : Value} {b2 : List UInt8} {s2 : Nat} (h : PairAt w B p q v u b safe b' safe') (hd : RDiskAt w' B q u2 b2 s2) (hu : Upd (fun k => k = q) w w') (hv : ∀ k, u2.ownBlock = some k → u.ownBlock = some k ∨ w.heap.size ≤ k) : PairAt w' B p q v u2 b safe b2 s2 := by
  refine ⟨h.d.upd hu h.n1 (fun k hk e => h.n2 (e ▸ hk)), hd, h.n1, h.n2, ?_, ?_⟩
  · intro e
    rcases hv _ e with e | e
    · exact h.n3 e
    · have := h.d.lt; omega
  · intro k hk e2
    rcases hv k e2 with e | e
    · exact h.n4 k hk e
    · have := (h.d.own.lt k hk).2; omega
theorem goes_d {w0 : World} (h : PairAt w B p q v u b safe b' safe') (hb : Below B w0 w) (hu : Upd (DiskAt.foot p v) w w') : Below B w0 w' := h.d.goes hb hu
theorem goes_r {w0 : World} (h : PairAt w B p q v u b safe b' safe') (hb : Below B w0 w) (hu : Upd (fun k => k = q) w w') : Below B w0 w' :=
  below_upd hb (by have := h.r.lt; have := h.r.base; omega) hu (fun k hk => by rw [hk]; exact h.r.base)
end PairAt

/-- A check alone: the operation bears no guard, or this one. -/
theorem if_free {o : Oper} {y : Nat → Option Bool} {X Y : Prop} (h : o.guard = none) (hx : if Region.wanted o y = true then X else Y) : if Region.wanted o y = true then X else Y := hx
theorem if_guard {o : Oper} {y : Nat → Option Bool} {X Y : Prop} (g : Nat × Bool) (h : o.guard = some g) (hx : if Region.wanted o y = true then X else Y) : if Region.wanted o y = true then X else Y := hx

theorem roomy165d (A : Option Addr) (n c : Nat) (l : List UInt8) (w : World) (hl : l.length = n) (hn : n ≤ 100000000) (hr : RB w A l) :
    Calls Try.prog 28 #[.slice A n c, .int .u8 165] w fun e w' => e = .returned (.slice (some ⟨w.heap.size, 0, none⟩) (n + 80) (n + 80)) ∧ Arr w' w.heap.size 5 (bv (l ++ List.replicate 80 165)) ∧ Below w.heap.size w w' := roomy8_any A n c l 165 w hl hn hr
theorem intact165d (A1 A2 : Option Addr) (n c1 c2 : Nat) (l : List UInt8) (w : World) (hl : l.length = n) (hn : n ≤ 100000000) (hc : n + 80 ≤ c1) (h1 : RB w A1 (l ++ List.replicate 80 165)) (h2 : RB w A2 l) :
    Calls Try.prog 30 #[.slice A1 (n + 80) c1, .slice A2 n c2, .int .u8 165] w fun e w' => e = .returned (.bool true) ∧ Below w.heap.size w w' := intact8_any A1 A2 n c1 c2 l 165 w hl hn hc h1 h2

set_option maxRecDepth 100000 in
set_option maxHeartbeats 16000000 in
theorem diskPlays_any (A : Option Addr) (n c : Nat) (L : List (Int × Int × List UInt8)) (w : World) (hl : L.length = n) (hn : n ≤ 9223372036854775807) (hr : RA w A L) :
    Calls Try.prog 8 #[.slice A n c] w fun e w' => e = .returned (.bool true) ∧ Below w.heap.size w w' := by
  subst hl
  have HL := Lib.hid hr
  clear hr
  go_enter Try.func8, Try.ntmps8
  go_wp2_with fail
  refine (diskNew_any _).mono ?_
  rintro e w1 ⟨rfl, hd, hb⟩
  have D1 := Lib.hid hd
  have B1 := Lib.hid hb
  clear hd hb
  have hP : PairAt (w1.alloc (.cells #[.slice none 0 0, .int .i64 0] 45)) w.heap.size w.heap.size w1.heap.size (.slice none 0 0) (.slice none 0 0) [] 0 [] 0 :=
    ⟨D1.out.below ((Below.refl _ _).alloc (Nat.le_refl _) _), ⟨heap_alloc_new w1 _, World.ownsRow_nil _ _ _ _, by simp [Value.ownBlock], Nat.le_refl _, by simp, B1.out.size⟩, by have := D1.out.lt; omega, by simp [Value.ownBlock], by simp [Value.ownBlock], fun k hk => by simp [Value.ownBlock] at hk⟩
  have P1 := Lib.hid hP
  have B2 := Lib.hid (B1.out.alloc B1.out.size (.cells #[.slice none 0 0, .int .i64 0] 45))
  clear hP
  go_wp2_with fail
  generalize w1.heap.size = q at *
  go_loopg [5] 80 (fun k s5 wr => ∃ (i : Nat) (v u : Value) (b : List UInt8) (safe : Nat), i ≤ L.length ∧ i ≤ 80 ∧ k = 80 - i ∧ s5 = .int .i64 (i : Int) ∧ b.length ≤ 100 * i ∧ PairAt wr w.heap.size w.heap.size q v u b safe b safe ∧ Below w.heap.size w wr)
  case atStart => exact ⟨0, _, _, [], 0, Nat.zero_le _, by omega, by omega, rfl, by simp, P1.out, B2.out⟩
  case round =>
    obtain ⟨i, v, u, b, safe, hi, hi80, hk, rfl, hbl, hP, hb⟩ := hrel
    have HK := Lib.hid hk
    have HBL := Lib.hid hbl
    have HP := Lib.hid hP
    have HB := Lib.hid hb
    clear hk hbl hP hb P1 B1 B2 D1
    by_cases hlt : i < L.length ∧ i < 80
    · obtain ⟨hlt, hlt80⟩ := hlt
      obtain ⟨⟨ab, ao, asp⟩, rfl, hcs⟩ := HL.out (by omega)
      have hsp : asp = none := by
        obtain ⟨_, _, g0, _⟩ := hcs 0 (by omega)
        simp only [Nat.zero_mul, Addr.add, if_true] at g0
        unfold World.cell? at g0
        cases asp with
        | none => rfl
        | some s => simp at g0; split at g0 <;> simp at g0
      subst hsp
      obtain ⟨Ai, ci, h0, h1, h2, h3, h4, h5, h6, h7⟩ := hcs i hlt
      rw [add_off] at h0 h1 h2
      rw [← Nat.add_assoc] at h1 h2
      have k0 := cell_below HB.out h0
      have k1 := cell_below HB.out h1
      have k2 := cell_below HB.out h2
      have HX := Lib.hid h5
      clear hcs h0 h1 h2 h5
      generalize L[i].1 = kind at *
      generalize L[i].2.1 = nn at *
      generalize L[i].2.2 = x0 at *
      have HXw := Lib.hid (show RB w Ai (x0.take 100) from RB_take HX.out 100)
      have HLT := Lib.hid hlt
      have HLT80 := Lib.hid hlt80
      go_upto_if 30 with fail
      go_cut [30] (fun s30 wx => ∃ x : List UInt8, x.length ≤ 100 ∧ x.length ≤ ci ∧ x = x0.take 100 ∧ wx.heap[wr.heap.size]? = some (.cells #[.int .i64 kind, .int .i64 nn, .slice Ai x.length ci] 47 (0, 0)) ∧ Below wr.heap.size wr wx)
      case first =>
        have hal := (Below.refl wr.heap.size wr).alloc (Nat.le_refl _) (.cells #[.int .i64 kind, .int .i64 nn, .slice Ai x0.length ci] 47)
        by_cases h100 : x0.length ≤ 100
        · have g1 : ¬ ((100 : Int) < (x0.length : Int)) := by omega
          have HT := Lib.hid (show x0.take 100 = x0 from List.take_of_length_le h100)
          go_wp2_with fail
          go_meet
          exact ⟨x0, h100, h3, HT.out.symm, heap_alloc_new wr _, hal⟩
        · have g1 : (100 : Int) < (x0.length : Int) := by omega
          have g2 : (100 : Int) ≤ (ci : Int) := by omega
          have HT := Lib.hid (show (x0.take 100).length = 100 by rw [List.length_take]; omega)
          have G2 := Lib.hid (show 100 ≤ ci by omega)
          clear h100
          go_wp2_with fail
          go_meet
          refine ⟨x0.take 100, by rw [HT.out]; omega, by rw [HT.out]; exact G2.out, rfl, ?_, ?_⟩
          · rw [HT.out]
            first | exact heap_alloc_new wr _ | (rw [setCell_at (heap_alloc_new wr _)]; rfl)
          · first | exact (Below.refl wr.heap.size wr).alloc (Nat.le_refl _) _ | exact hal.setCell (Nat.le_refl _) _
      case rest =>
        obtain ⟨x, hx100, hxc, hxe, hz, hbz⟩ := hcut
        rw [← hxe] at HXw
        have hzl : wr.heap.size < wc.heap.size := (Array.getElem?_eq_some_iff.1 hz).1
        have hfoot : ∀ k, k = w.heap.size ∨ k = q ∨ v.ownBlock = some k ∨ u.ownBlock = some k → k < wr.heap.size := by
          rintro k (rfl | rfl | h | h)
          · exact HP.out.d.lt
          · exact HP.out.r.lt
          · exact (HP.out.d.own.lt k h).2
          · exact (HP.out.r.own.lt k h).2
        have HPc := Lib.hid (HP.out.below hbz)
        have HBc := Lib.hid (below_below HB.out HB.out.size hbz)
        have HZ := Lib.hid hz
        have HFT := Lib.hid hfoot
        have HX100 := Lib.hid hx100
        have HXC := Lib.hid hxc
        have HZL := Lib.hid hzl
        clear hbz hz hfoot HP HB HX k0 k1 k2 hxe
        generalize wr.heap.size = z at *
        have cz0 : wc.cell? ⟨z, 0, none⟩ = some (.int .i64 kind) := (cell_of_row wc z 0 _ _ _ HZ.out).trans rfl
        have cz1 : wc.cell? ⟨z, 1, none⟩ = some (.int .i64 nn) := (cell_of_row wc z 1 _ _ _ HZ.out).trans rfl
        have cz2 : wc.cell? ⟨z, 2, none⟩ = some (.slice Ai x.length ci) := (cell_of_row wc z 2 _ _ _ HZ.out).trans rfl
        clear hx100 hxc
        go_upto_block 2 with fail
        go_cut [45] (fun s45 wx => ∃ (v' u' : Value) (b' : List UInt8) (safe' : Nat), b'.length ≤ 100 * (i + 1) ∧ PairAt wx w.heap.size w.heap.size q v' u' b' safe' b' safe' ∧ Below w.heap.size w wx)
        case first =>
          by_cases hk1 : kind = 1
          · subst hk1
            have hx100 := HX100.out
            have HX80 := Lib.hid (show x.length ≤ 100000000 by omega)
            clear hx100
            go_wp2_with fail
            refine (roomy165d Ai x.length ci x _ rfl HX80.out (HXw.out.below HBc.out)).mono ?_
            rintro e w5 ⟨rfl, ha, hb⟩
            have HPW := Lib.hid (HPc.out.below hb)
            have HBW := Lib.hid (below_below HBc.out HBc.out.size hb)
            have HF0 := Lib.hid (show RB w5 (some ⟨wc.heap.size, 0, none⟩) (x ++ List.replicate 80 165) by
              intro _
              exact ⟨_, rfl, fun j hj => by rw [add_plain]; exact ha.byte hj⟩)
            have HX0 := Lib.hid (show RB w5.drew (some ⟨wc.heap.size, 0, none⟩) x from (show RB w5 (some ⟨wc.heap.size, 0, none⟩) x by have h := RB_take HF0.out x.length; simpa using h))
            have HZW := Lib.hid ((hb.block z HZL.out).trans HZ.out)
            have HFF := Lib.hid (show ∀ k, k = w.heap.size ∨ k = q ∨ v.ownBlock = some k ∨ u.ownBlock = some k → k < wc.heap.size from fun k hk => by have := HFT.out k hk; have := HZL.out; omega)
            have ZLW := Nat.lt_of_lt_of_le HZL.out hb.size
            have dz1 : w5.cell? ⟨z, 1, none⟩ = some (.int .i64 nn) := (cell_of_row w5 z 1 _ _ _ HZW.out).trans rfl
            have dz2 : w5.cell? ⟨z, 2, none⟩ = some (.slice Ai x.length ci) := (cell_of_row w5 z 2 _ _ _ HZW.out).trans rfl
            clear ha hb cz0 cz1 cz2
            generalize wc.heap.size = f at *
            have hx81 : (x.length : Int) ≤ (x.length : Int) + 80 := by omega
            go_upto_region 16 with fail
            go_region_law (first
              | (refine op_call #[.pointer (some ⟨w.heap.size, 0, none⟩), .slice (some ⟨f, 0, none⟩) x.length (x.length + 80)] (by simp [Region.wanted]) rfl Try.func21 (by kernel_rfl) rfl (by simp [Act.eval, Act.put]) ?_; refine (diskAppend_any w5.drew _ _ _ _ _ HPW.out.drew.d (some ⟨f, 0, none⟩) x.length (x.length + 80) x rfl HX0.out (by have := HBL.out; have := HX100.out; omega)).mono ?_; rintro e w6 ⟨v6, rfl, hd6, hu6, hv6⟩; have hP6 := HPW.out.drew.disk hd6 hu6 hv6; have hB6 := HPW.out.drew.goes_d HBW.out.drew hu6; have hz6 : w6.heap[z]? = some (.cells #[.int .i64 1, .int .i64 nn, .slice Ai x.length ci] 47 (0, 0)) := (hu6.block z ZLW (fun h => h.elim (fun h => by have := HFT.out z (.inl h); omega) (fun h => by have := HFT.out z (.inr (.inr (.inl h))); omega))).trans HZW.out; have cy6 : w6.cell? ⟨z, 1, none⟩ = some (.int .i64 nn) := (cell_of_row w6 z 1 _ _ _ hz6).trans rfl; have cx6 : w6.cell? ⟨z, 2, none⟩ = some (.slice Ai x.length ci) := (cell_of_row w6 z 2 _ _ _ hz6).trans rfl; have hF6 : RB w6 (some ⟨f, 0, none⟩) (x ++ List.replicate 80 165) := ((show RB w5.drew (some ⟨f, 0, none⟩) (x ++ List.replicate 80 165) from HF0.out).cells.upd hu6 (fun _ ad e hf => by cases e; rcases hf with hf | hf; (have hf' : f = w.heap.size := hf; have := HFF.out _ (.inl hf'); omega); (have hf' : v.ownBlock = some f := hf; have := HFF.out _ (.inr (.inr (.inl hf'))); omega))).bytes; refine ⟨_, rfl, ?_⟩)
              | (refine op_call #[.pointer (some ⟨w.heap.size, 0, none⟩), .slice (some ⟨f, 0, none⟩) x.length (x.length + 80)] (by simp [Region.wanted]) rfl Try.func21 (by kernel_rfl) rfl (by simp [Act.eval, Act.put]) ?_; refine (diskAppend_any w8 _ _ _ _ _ hP8.d (some ⟨f, 0, none⟩) x.length (x.length + 80) x rfl (by have h := RB_take hF8 x.length; simpa using h) (by have := HBL.out; have := HX100.out; omega)).mono ?_; rintro e w7 ⟨v7, rfl, hd7, hu7, hv7⟩; have hP7 := hP8.disk hd7 hu7 hv7; have hB7 := hP8.goes_d hB8 hu7; have hz7 : w7.heap[z]? = some (.cells #[.int .i64 1, .int .i64 nn, .slice Ai x.length ci] 47 (0, 0)) := (hu7.block z (Nat.lt_of_lt_of_le ZLW hu8.size) (fun h => h.elim (fun h => by have := HFT.out z (.inl h); omega) (fun h => by have := HFT.out z (.inr (.inr (.inl h))); omega))).trans hz8; have cy7 : w7.cell? ⟨z, 1, none⟩ = some (.int .i64 nn) := (cell_of_row w7 z 1 _ _ _ hz7).trans rfl; have cx7 : w7.cell? ⟨z, 2, none⟩ = some (.slice Ai x.length ci) := (cell_of_row w7 z 2 _ _ _ hz7).trans rfl; have hF7 : RB w7 (some ⟨f, 0, none⟩) (x ++ List.replicate 80 165) := (hF8.cells.upd hu7 (fun _ ad e hf => by cases e; rcases hf with hf | hf; (have hf' : f = w.heap.size := hf; have := HFF.out _ (.inl hf'); omega); (have hf' : v.ownBlock = some f := hf; have := HFF.out _ (.inr (.inr (.inl hf'))); omega))).bytes; refine ⟨_, rfl, ?_⟩)
              | (refine op_call #[.pointer (some ⟨q, 0, none⟩), .slice Ai x.length ci] (by simp [Region.wanted]) rfl Try.func29 (by kernel_rfl) rfl (by simp [Act.eval, Act.put]) ?_; refine (refAppend_any w5.drew _ _ _ _ _ HPW.out.drew.r Ai x.length ci x rfl (HXw.out.below HBW.out.drew) (by have := HBL.out; have := HX100.out; omega)).mono ?_; rintro e w8 ⟨u8, rfl, hd8, hu8, hv8⟩; have hP8 := HPW.out.drew.ref hd8 hu8 hv8; have hB8 := HPW.out.drew.goes_r HBW.out.drew hu8; have hz8 : w8.heap[z]? = some (.cells #[.int .i64 1, .int .i64 nn, .slice Ai x.length ci] 47 (0, 0)) := (hu8.block z ZLW (fun h => by have := HFT.out z (.inr (.inl h)); omega)).trans HZW.out; have cy8 : w8.cell? ⟨z, 1, none⟩ = some (.int .i64 nn) := (cell_of_row w8 z 1 _ _ _ hz8).trans rfl; have cx8 : w8.cell? ⟨z, 2, none⟩ = some (.slice Ai x.length ci) := (cell_of_row w8 z 2 _ _ _ hz8).trans rfl; have hF8 : RB w8 (some ⟨f, 0, none⟩) (x ++ List.replicate 80 165) := ((show RB w5.drew (some ⟨f, 0, none⟩) (x ++ List.replicate 80 165) from HF0.out).cells.upd hu8 (fun _ ad e hf => by cases e; have hf' : f = q := hf; have := HFF.out _ (.inr (.inl hf')); omega)).bytes; refine ⟨_, rfl, ?_⟩)
              | (refine op_call #[.pointer (some ⟨q, 0, none⟩), .slice Ai x.length ci] (by simp [Region.wanted]) rfl Try.func29 (by kernel_rfl) rfl (by simp [Act.eval, Act.put]) ?_; refine (refAppend_any w6 _ _ _ _ _ hP6.r Ai x.length ci x rfl (HXw.out.below hB6) (by have := HBL.out; have := HX100.out; omega)).mono ?_; rintro e w7 ⟨u7, rfl, hd7, hu7, hv7⟩; have hP7 := hP6.ref hd7 hu7 hv7; have hB7 := hP6.goes_r hB6 hu7; have hz7 : w7.heap[z]? = some (.cells #[.int .i64 1, .int .i64 nn, .slice Ai x.length ci] 47 (0, 0)) := (hu7.block z (Nat.lt_of_lt_of_le ZLW hu6.size) (fun h => by have := HFT.out z (.inr (.inl h)); omega)).trans hz6; have cy7 : w7.cell? ⟨z, 1, none⟩ = some (.int .i64 nn) := (cell_of_row w7 z 1 _ _ _ hz7).trans rfl; have cx7 : w7.cell? ⟨z, 2, none⟩ = some (.slice Ai x.length ci) := (cell_of_row w7 z 2 _ _ _ hz7).trans rfl; have hF7 : RB w7 (some ⟨f, 0, none⟩) (x ++ List.replicate 80 165) := (hF6.cells.upd hu7 (fun _ ad e hf => by cases e; have hf' : f = q := hf; have := HFF.out _ (.inr (.inl hf')); omega)).bytes; refine ⟨_, rfl, ?_⟩)
              | (refine op_call #[.slice (some ⟨f, 0, none⟩) (x.length + 80) (x.length + 80), .slice Ai x.length ci, .int .u8 165] (wanted_on _ _ 12 62 false (by rfl) (by rfl) (by first | rfl | simp [Act.put])) rfl Try.func30 (by kernel_rfl) rfl (by simp [Act.eval, Act.put]) ?_; refine (intact165d (some ⟨f, 0, none⟩) Ai x.length (x.length + 80) ci x w7 rfl (by have := HX100.out; omega) (by omega) hF7 (HXw.out.below hB7)).mono ?_; rintro e w9 ⟨rfl, hb9⟩; refine ⟨_, rfl, ?_⟩))
            all_goals
              go_wp2_with fail
              go_meet
              exact ⟨_, _, b ++ x, safe, by have := HBL.out; have := HX100.out; rw [List.length_append]; omega, hP7.below hb9, below_below hB7 hB7.size hb9⟩
          · have hb1 : (kind == 1) = false := by rw [beq_eq_false_iff_ne]; exact hk1
            clear hk1
            by_cases hk2 : kind = 2
            · subst hk2
              clear hb1
              go_wp2_with fail
              refine (diskSync_any _ _ _ _ _ _ HPc.out.d).mono ?_
              rintro e w5 ⟨v5, rfl, hd, hu, hv⟩
              have P5 := Lib.hid (HPc.out.disk hd hu hv)
              have B5 := Lib.hid (HPc.out.goes_d HBc.out hu)
              clear hd hu hv
              go_wp2_with fail
              refine (refSync_any _ _ _ _ _ _ P5.out.r).mono ?_
              rintro e w6 ⟨u6, rfl, hd, hu, hv⟩
              have P6 := Lib.hid (P5.out.ref hd hu hv)
              have B6 := Lib.hid (P5.out.goes_r B5.out hu)
              clear hd hu hv
              go_wp2_with fail
              go_meet
              exact ⟨_, _, b, b.length, by have := HBL.out; omega, P6.out, B6.out⟩
            · have hb2 : (kind == 2) = false := by rw [beq_eq_false_iff_ne]; exact hk2
              clear hk2
              by_cases hk3 : kind = 3
              · subst hk3
                by_cases hno : nn < 0 ∨ (b.length : Int) < nn
                · skip
                  have HNO := Lib.hid hno
                  clear hno
                  go_upto_region 22 with fail
                  go_region_law (first
                    | (refine op_call #[.pointer (some ⟨w.heap.size, 0, none⟩), .int .i64 nn] (by simp [Region.wanted]) rfl Try.func27 (by kernel_rfl) rfl (by simp [Act.eval, Act.put]) ?_; refine (diskCut_no wc.drew _ _ _ _ _ HPc.out.drew.d nn HNO.out).mono ?_; rintro e w5 ⟨rfl, rfl⟩; refine ⟨_, rfl, ?_⟩)
                    | (refine op_call #[.pointer (some ⟨q, 0, none⟩), .int .i64 nn] (by simp [Region.wanted]) rfl Try.func32 (by kernel_rfl) rfl (by simp [Act.eval, Act.put]) ?_; refine (refCut_no wc.drew _ _ _ _ _ HPc.out.drew.r nn HNO.out).mono ?_; rintro e w5 ⟨rfl, rfl⟩; refine ⟨_, rfl, ?_⟩))
                  all_goals
                    go_wp2_with fail
                    go_meet
                    exact ⟨v, u, b, safe, by have := HBL.out; omega, HPc.out.drew, HBc.out.drew⟩
                · obtain ⟨kk, rfl⟩ := Int.eq_ofNat_of_zero_le (show 0 ≤ nn by omega)
                  have hkk : kk ≤ b.length := by omega
                  have HKK := Lib.hid hkk
                  have ZLW := HZL.out
                  have HPW := HPc
                  have HBW := HBc
                  have HZW := HZ
                  clear hkk
                  go_upto_region 22 with fail
                  go_region_law (first
                    | (refine op_call #[.pointer (some ⟨w.heap.size, 0, none⟩), .int .i64 (kk : Int)] (by simp [Region.wanted]) rfl Try.func27 (by kernel_rfl) rfl (by simp [Act.eval, Act.put]) ?_; refine (diskCut_any w8 _ _ _ _ _ hP8.d kk HKK.out).mono ?_; rintro e w7 ⟨v7, rfl, hd7, hu7, hv7⟩; have hP7 := hP8.disk hd7 hu7 hv7; have hB7 := hP8.goes_d hB8 hu7; have hz7 : w7.heap[z]? = some (.cells #[.int .i64 3, .int .i64 (kk : Int), .slice Ai x.length ci] 47 (0, 0)) := (hu7.block z (Nat.lt_of_lt_of_le ZLW hu8.size) (fun h => h.elim (fun h => by have := HFT.out z (.inl h); omega) (fun h => by have := HFT.out z (.inr (.inr (.inl h))); omega))).trans hz8; have cy7 : w7.cell? ⟨z, 1, none⟩ = some (.int .i64 (kk : Int)) := (cell_of_row w7 z 1 _ _ _ hz7).trans rfl; have cx7 : w7.cell? ⟨z, 2, none⟩ = some (.slice Ai x.length ci) := (cell_of_row w7 z 2 _ _ _ hz7).trans rfl; refine ⟨_, rfl, ?_⟩)
                    | (refine op_call #[.pointer (some ⟨w.heap.size, 0, none⟩), .int .i64 (kk : Int)] (by simp [Region.wanted]) rfl Try.func27 (by kernel_rfl) rfl (by simp [Act.eval, Act.put]) ?_; refine (diskCut_any wc.drew _ _ _ _ _ HPW.out.drew.d kk HKK.out).mono ?_; rintro e w6 ⟨v6, rfl, hd6, hu6, hv6⟩; have hP6 := HPW.out.drew.disk hd6 hu6 hv6; have hB6 := HPW.out.drew.goes_d HBW.out.drew hu6; have hz6 : w6.heap[z]? = some (.cells #[.int .i64 3, .int .i64 (kk : Int), .slice Ai x.length ci] 47 (0, 0)) := (hu6.block z ZLW (fun h => h.elim (fun h => by have := HFT.out z (.inl h); omega) (fun h => by have := HFT.out z (.inr (.inr (.inl h))); omega))).trans HZW.out; have cy6 : w6.cell? ⟨z, 1, none⟩ = some (.int .i64 (kk : Int)) := (cell_of_row w6 z 1 _ _ _ hz6).trans rfl; have cx6 : w6.cell? ⟨z, 2, none⟩ = some (.slice Ai x.length ci) := (cell_of_row w6 z 2 _ _ _ hz6).trans rfl; refine ⟨_, rfl, ?_⟩)
                    | (refine op_call #[.pointer (some ⟨q, 0, none⟩), .int .i64 (kk : Int)] (by simp [Region.wanted]) rfl Try.func32 (by kernel_rfl) rfl (by simp [Act.eval, Act.put]) ?_; refine (refCut_any w6 _ _ _ _ _ hP6.r kk HKK.out).mono ?_; rintro e w7 ⟨u7, rfl, hd7, hu7, hv7⟩; have hP7 := hP6.ref hd7 hu7 hv7; have hB7 := hP6.goes_r hB6 hu7; have hz7 : w7.heap[z]? = some (.cells #[.int .i64 3, .int .i64 (kk : Int), .slice Ai x.length ci] 47 (0, 0)) := (hu7.block z (Nat.lt_of_lt_of_le ZLW hu6.size) (fun h => by have := HFT.out z (.inr (.inl h)); omega)).trans hz6; have cy7 : w7.cell? ⟨z, 1, none⟩ = some (.int .i64 (kk : Int)) := (cell_of_row w7 z 1 _ _ _ hz7).trans rfl; have cx7 : w7.cell? ⟨z, 2, none⟩ = some (.slice Ai x.length ci) := (cell_of_row w7 z 2 _ _ _ hz7).trans rfl; refine ⟨_, rfl, ?_⟩)
                    | (refine op_call #[.pointer (some ⟨q, 0, none⟩), .int .i64 (kk : Int)] (by simp [Region.wanted]) rfl Try.func32 (by kernel_rfl) rfl (by simp [Act.eval, Act.put]) ?_; refine (refCut_any wc.drew _ _ _ _ _ HPW.out.drew.r kk HKK.out).mono ?_; rintro e w8 ⟨u8, rfl, hd8, hu8, hv8⟩; have hP8 := HPW.out.drew.ref hd8 hu8 hv8; have hB8 := HPW.out.drew.goes_r HBW.out.drew hu8; have hz8 : w8.heap[z]? = some (.cells #[.int .i64 3, .int .i64 (kk : Int), .slice Ai x.length ci] 47 (0, 0)) := (hu8.block z ZLW (fun h => by have := HFT.out z (.inr (.inl h)); omega)).trans HZW.out; have cy8 : w8.cell? ⟨z, 1, none⟩ = some (.int .i64 (kk : Int)) := (cell_of_row w8 z 1 _ _ _ hz8).trans rfl; have cx8 : w8.cell? ⟨z, 2, none⟩ = some (.slice Ai x.length ci) := (cell_of_row w8 z 2 _ _ _ hz8).trans rfl; refine ⟨_, rfl, ?_⟩))
                  all_goals
                    go_wp2_with fail
                    go_meet
                    exact ⟨_, _, _, _, by have := HBL.out; rw [List.length_take]; omega, hP7, hB7⟩
              · have hb3 : (kind == 3) = false := by rw [beq_eq_false_iff_ne]; exact hk3
                clear hk3
                go_wp2_with fail
                refine (diskCrash_any _ _ _ _ _ _ HPc.out.d nn h6.1 h6.2).mono ?_
                rintro e w5 ⟨v5, rfl, hd, hu, hv⟩
                have P5 := Lib.hid (HPc.out.disk hd hu hv)
                have B5 := Lib.hid (HPc.out.goes_d HBc.out hu)
                have hz5 : w5.heap[z]? = some (.cells #[.int .i64 kind, .int .i64 nn, .slice Ai x.length ci] 47 (0, 0)) := (hu.block z HZL.out (by
                  rintro (h | h)
                  · have := HFT.out z (.inl h); omega
                  · have := HFT.out z (.inr (.inr (.inl h))); omega)).trans HZ.out
                have cy1 : w5.cell? ⟨z, 1, none⟩ = some (.int .i64 nn) := (cell_of_row w5 z 1 _ _ _ hz5).trans rfl
                clear hd hu hv hz5
                go_wp2_with fail
                refine (refCrash_any _ _ _ _ _ _ P5.out.r nn h6.1 h6.2).mono ?_
                rintro e w6 ⟨u6, rfl, hd, hu, hv⟩
                have P6 := Lib.hid (P5.out.ref hd hu hv)
                have B6 := Lib.hid (P5.out.goes_r B5.out hu)
                clear hd hu hv
                go_wp2_with fail
                go_meet
                exact ⟨_, _, _, _, by have := HBL.out; rw [List.length_take]; omega, P6.out, B6.out⟩
        case rest =>
          obtain ⟨v', u', b', safe', hbl', hP', hb'⟩ := hcut
          clear cz0 cz1 cz2
          obtain ⟨Av, cv, rfl, _⟩ := own_slice hP'.d.own
          obtain ⟨Au, cu, rfl, _⟩ := own_slice hP'.r.own
          obtain ⟨zz, ezz⟩ : ∃ zz, zz = (⟨b'.toArray⟩ : ByteArray) := ⟨_, rfl⟩
          have conv : ∀ (W : World) (A : Option Addr) (c B : Nat), W.ownsRow B 5 1 (.slice A b'.length c) b'.length (bv b') → (convert 22 9 (.slice A b'.length c)).run Try.prog W = .ok (.string zz) W := fun W A c B h => by
            rw [ezz]
            exact run_string_RB (P := Try.prog) W 22 9 5 Try.underlying22 Try.underlying5 Try.underlying9 A _ c _ rfl (own_RC h).bytes
          have CONV := Lib.hid conv
          have r0 := hP'.r.c0
          have r1 := hP'.r.c1
          have hsr := CONV.out wc.drew _ _ _ hP'.r.own
          have HP' := Lib.hid hP'
          have HB' := Lib.hid hb'
          have HBL' := Lib.hid hbl'
          have EZZ := Lib.hid ezz
          clear conv hP' hb' hbl' ezz r0 r1 hsr
          go_upto_region 24 with fail
          refine region_by (fun W => PairAt W w.heap.size w.heap.size q (.slice Av b'.length cv) (.slice Au b'.length cu) b' safe' b' safe' ∧ Below w.heap.size w W) [(fun v _ => v = .pointer (some ⟨w.heap.size, 0, none⟩)), fun v w' => ∃ A6 c6, v = .slice A6 b'.length c6 ∧ RB w' A6 b', fun v _ => v = .string zz, (fun v _ => v = .pointer (some ⟨q, 0, none⟩)), (fun v _ => v = .pointer (some ⟨q, 0, none⟩)), (fun v _ => v = .pointer (some ⟨q, 0, none⟩)), (fun v _ => v = .slice Au b'.length cu), fun v _ => v = .string zz, (fun v _ => v = .bool false), (fun v _ => v = .bool false), (fun v _ => v = .pointer (some ⟨w.heap.size, 0, none⟩)), fun v _ => v = .int .i64 (safe' : Int), (fun v _ => v = .pointer (some ⟨q, 0, none⟩)), (fun v _ => v = .pointer (some ⟨q, 0, none⟩)), (fun v _ => v = .pointer (some ⟨q, 1, none⟩)), (fun v _ => v = .int .i64 (safe' : Int)), (fun v _ => v = .bool false), (fun v _ => v = .bool false)] (by kernel_rfl) (by kernel_rfl) (by kernel_rfl) rfl (⟨HP'.out.drew, HB'.out.drew⟩) ?ok24 ?fin24
          case ok24 =>
            refine ⟨?_, ?_, ?_, ?_, ?_, ?_, ?_, ?_, ?_, ?_, ?_, ?_, ?_, ?_, ?_, ?_, ?_, ?_, trivial⟩
            · intro a' w' K hI hd hq hK
              have e3 : a'.eval (.tmp 3) = .pointer (some ⟨w.heap.size, 0, none⟩) := (hq 3 (by kernel_rfl)).trans rfl
              clear hd hq
              refine op_value (wanted_free _ _ (by rfl)) (v := .pointer (some ⟨w.heap.size, 0, none⟩)) (w'' := w') ?_ (hK _ _ hI (fun _ _ h => h) rfl)
              clear hK
              simp only [execOp, e3]
              have f3 : a'.tmps[3]?.getD undef = .pointer (some ⟨w.heap.size, 0, none⟩) := (Array.getD_eq_getD_getElem? ..).symm.trans e3
              clear e3
              first | rfl | (go_simp <;> exact IntWalk.i64_in _ (by omega))
            · intro a' w' K hI hd hq hK
              have e86 : a'.eval (.tmp 86) = .pointer (some ⟨w.heap.size, 0, none⟩) := (hd 0 86 (by kernel_rfl))
              clear hd hq
              refine op_call #[.pointer (some ⟨w.heap.size, 0, none⟩)] (wanted_free _ _ (by rfl)) rfl Try.func24 (by kernel_rfl) rfl (by simp [e86]) ?_
              refine (diskBytes_any w' _ _ _ _ _ hI.1.d).mono ?_
              rintro e w6 ⟨x, rfl, ho, hb⟩
              obtain ⟨A6, c6, rfl, _⟩ := own_slice ho
              refine ⟨_, rfl, hK _ _ ⟨hI.1.below hb, below_below hI.2 hI.2.size hb⟩ (fun j u => by match j with | 1 => exact fun ⟨A6, c6, h1, h2⟩ => ⟨A6, c6, h1, h2.below hb⟩ | 0 | 2 | 3 | 4 | 5 | 6 | 7 | 8 | 9 | 10 | 11 | 12 | 13 | 14 | 15 | 16 | 17 => exact fun h => h | _ + 18 => exact fun _ => trivial) ⟨A6, c6, rfl, (own_RC ho).bytes⟩⟩
            · intro a' w' K hI hd hq hK
              have e87 := hd 1 87 (by kernel_rfl)
              clear hd hq
              obtain ⟨A6, c6, e87, hr6⟩ := (show ∃ A6 c6, a'.eval (.tmp 87) = .slice A6 b'.length c6 ∧ RB w' A6 b' from e87)
              refine op_value (wanted_free _ _ (by rfl)) (v := .string zz) (w'' := w') ?_ (hK _ _ hI (fun _ _ h => h) rfl)
              simp only [execOp, e87]
              have hst := run_string_RB (P := Try.prog) w' 22 9 5 Try.underlying22 Try.underlying5 Try.underlying9 A6 b'.length c6 b' rfl hr6
              rw [← EZZ.out] at hst
              clear e87 hK hr6 hI
              go_simp
            · intro a' w' K hI hd hq hK
              have e4 : a'.eval (.tmp 4) = .pointer (some ⟨q, 0, none⟩) := (hq 4 (by kernel_rfl)).trans rfl
              clear hd hq
              refine op_value (wanted_free _ _ (by rfl)) (v := .pointer (some ⟨q, 0, none⟩)) (w'' := w') ?_ (hK _ _ hI (fun _ _ h => h) rfl)
              clear hK
              simp only [execOp, e4]
              have f4 : a'.tmps[4]?.getD undef = .pointer (some ⟨q, 0, none⟩) := (Array.getD_eq_getD_getElem? ..).symm.trans e4
              clear e4
              first | rfl | (go_simp <;> exact IntWalk.i64_in _ (by omega))
            · intro a' w' K hI hd hq hK
              have e89 : a'.eval (.tmp 89) = .pointer (some ⟨q, 0, none⟩) := (hd 3 89 (by kernel_rfl))
              clear hd hq
              refine op_value (wanted_free _ _ (by rfl)) (v := .pointer (some ⟨q, 0, none⟩)) (w'' := w') ?_ (hK _ _ hI (fun _ _ h => h) rfl)
              clear hK
              simp only [execOp, e89]
              have f89 : a'.tmps[89]?.getD undef = .pointer (some ⟨q, 0, none⟩) := (Array.getD_eq_getD_getElem? ..).symm.trans e89
              clear e89
              first | rfl | (go_simp <;> exact IntWalk.i64_in _ (by omega))
            · intro a' w' K hI hd hq hK
              have e90 : a'.eval (.tmp 90) = .pointer (some ⟨q, 0, none⟩) := (hd 4 90 (by kernel_rfl))
              clear hd hq
              refine op_value (wanted_free _ _ (by rfl)) (v := .pointer (some ⟨q, 0, none⟩)) (w'' := w') ?_ (hK _ _ hI (fun _ _ h => h) rfl)
              clear hK
              simp only [execOp, e90]
              have f90 : a'.tmps[90]?.getD undef = .pointer (some ⟨q, 0, none⟩) := (Array.getD_eq_getD_getElem? ..).symm.trans e90
              clear e90
              first | rfl | (go_simp <;> exact IntWalk.i64_in _ (by omega))
            · intro a' w' K hI hd hq hK
              have e91 : a'.eval (.tmp 91) = .pointer (some ⟨q, 0, none⟩) := (hd 5 91 (by kernel_rfl))
              clear hd hq
              have r0 := hI.1.r.c0
              refine op_value (wanted_free _ _ (by rfl)) (v := .slice Au b'.length cu) (w'' := w') ?_ (hK _ _ hI (fun _ _ h => h) rfl)
              clear hK
              simp only [execOp, e91]
              have f91 : a'.tmps[91]?.getD undef = .pointer (some ⟨q, 0, none⟩) := (Array.getD_eq_getD_getElem? ..).symm.trans e91
              clear e91
              first | rfl | (go_simp <;> exact IntWalk.i64_in _ (by omega))
            · intro a' w' K hI hd hq hK
              have e92 : a'.eval (.tmp 92) = .slice Au b'.length cu := (hd 6 92 (by kernel_rfl))
              clear hd hq
              refine op_value (wanted_free _ _ (by rfl)) (v := .string zz) (w'' := w') ?_ (hK _ _ hI (fun _ _ h => h) rfl)
              simp only [execOp, e92]
              have hst := run_string_RB (P := Try.prog) w' 22 9 5 Try.underlying22 Try.underlying5 Try.underlying9 Au b'.length cu b' rfl (own_RC hI.1.r.own).bytes
              rw [← EZZ.out] at hst
              clear e92 hK hI
              go_simp
            · intro a' w' K hI hd hq hK
              have e88 : a'.eval (.tmp 88) = .string zz := (hd 2 88 (by kernel_rfl))
              have e93 : a'.eval (.tmp 93) = .string zz := (hd 7 93 (by kernel_rfl))
              clear hd hq
              refine op_value (wanted_free _ _ (by rfl)) (v := .bool false) (w'' := w') ?_ (hK _ _ hI (fun _ _ h => h) rfl)
              clear hK
              simp only [execOp, e88, e93]
              have f88 : a'.tmps[88]?.getD undef = .string zz := (Array.getD_eq_getD_getElem? ..).symm.trans e88
              have f93 : a'.tmps[93]?.getD undef = .string zz := (Array.getD_eq_getD_getElem? ..).symm.trans e93
              clear e88 e93
              first | rfl | (go_simp <;> exact IntWalk.i64_in _ (by omega))
            · intro a' w' K hI hd hq hK
              have e94 : a'.eval (.tmp 94) = .bool false := (hd 8 94 (by kernel_rfl))
              clear hd hq
              refine op_value (wanted_free _ _ (by rfl)) (v := .bool false) (w'' := w') ?_ (hK _ _ hI (fun _ _ h => h) rfl)
              clear hK
              simp only [execOp, e94]
              have f94 : a'.tmps[94]?.getD undef = .bool false := (Array.getD_eq_getD_getElem? ..).symm.trans e94
              clear e94
              first | rfl | (go_simp <;> exact IntWalk.i64_in _ (by omega))
            · intro a' w' K hI hd hq hK
              have hg := hd 9 95 (by kernel_rfl)
              have e3 : a'.eval (.tmp 3) = .pointer (some ⟨w.heap.size, 0, none⟩) := (hq 3 (by kernel_rfl)).trans rfl
              clear hd hq
              refine op_value (wanted_on _ a' 9 95 false (by rfl) (by rfl) hg) (v := .pointer (some ⟨w.heap.size, 0, none⟩)) (w'' := w') ?_ (hK _ _ hI (fun _ _ h => h) rfl)
              clear hK
              simp only [execOp, e3]
              have f3 : a'.tmps[3]?.getD undef = .pointer (some ⟨w.heap.size, 0, none⟩) := (Array.getD_eq_getD_getElem? ..).symm.trans e3
              clear e3
              first | rfl | (go_simp <;> exact IntWalk.i64_in _ (by omega))
            · intro a' w' K hI hd hq hK
              have hg := hd 9 95 (by kernel_rfl)
              have e96 : a'.eval (.tmp 96) = .pointer (some ⟨w.heap.size, 0, none⟩) := (hd 10 96 (by kernel_rfl))
              clear hd hq
              refine op_call #[.pointer (some ⟨w.heap.size, 0, none⟩)] (wanted_on _ a' 9 95 false (by rfl) (by rfl) hg) rfl Try.func25 (by kernel_rfl) rfl (by simp [e96]) ?_
              refine (diskSafe_any w' _ _ _ _ _ hI.1.d).mono ?_
              rintro e w8 ⟨rfl, rfl⟩
              exact ⟨_, rfl, hK _ _ hI (fun _ _ h => h) rfl⟩
            · intro a' w' K hI hd hq hK
              have hg := hd 9 95 (by kernel_rfl)
              have e4 : a'.eval (.tmp 4) = .pointer (some ⟨q, 0, none⟩) := (hq 4 (by kernel_rfl)).trans rfl
              clear hd hq
              refine op_value (wanted_on _ a' 9 95 false (by rfl) (by rfl) hg) (v := .pointer (some ⟨q, 0, none⟩)) (w'' := w') ?_ (hK _ _ hI (fun _ _ h => h) rfl)
              clear hK
              simp only [execOp, e4]
              have f4 : a'.tmps[4]?.getD undef = .pointer (some ⟨q, 0, none⟩) := (Array.getD_eq_getD_getElem? ..).symm.trans e4
              clear e4
              first | rfl | (go_simp <;> exact IntWalk.i64_in _ (by omega))
            · intro a' w' K hI hd hq hK
              have hg := hd 9 95 (by kernel_rfl)
              have e98 : a'.eval (.tmp 98) = .pointer (some ⟨q, 0, none⟩) := (hd 12 98 (by kernel_rfl))
              clear hd hq
              refine op_value (wanted_on _ a' 9 95 false (by rfl) (by rfl) hg) (v := .pointer (some ⟨q, 0, none⟩)) (w'' := w') ?_ (hK _ _ hI (fun _ _ h => h) rfl)
              clear hK
              simp only [execOp, e98]
              have f98 : a'.tmps[98]?.getD undef = .pointer (some ⟨q, 0, none⟩) := (Array.getD_eq_getD_getElem? ..).symm.trans e98
              clear e98
              first | rfl | (go_simp <;> exact IntWalk.i64_in _ (by omega))
            · intro a' w' K hI hd hq hK
              have hg := hd 9 95 (by kernel_rfl)
              have e99 : a'.eval (.tmp 99) = .pointer (some ⟨q, 0, none⟩) := (hd 13 99 (by kernel_rfl))
              clear hd hq
              refine op_value (wanted_on _ a' 9 95 false (by rfl) (by rfl) hg) (v := .pointer (some ⟨q, 1, none⟩)) (w'' := w') ?_ (hK _ _ hI (fun _ _ h => h) rfl)
              clear hK
              simp only [execOp, e99]
              have f99 : a'.tmps[99]?.getD undef = .pointer (some ⟨q, 0, none⟩) := (Array.getD_eq_getD_getElem? ..).symm.trans e99
              clear e99
              first | rfl | (go_simp <;> exact IntWalk.i64_in _ (by omega))
            · intro a' w' K hI hd hq hK
              have hg := hd 9 95 (by kernel_rfl)
              have e100 : a'.eval (.tmp 100) = .pointer (some ⟨q, 1, none⟩) := (hd 14 100 (by kernel_rfl))
              clear hd hq
              have r1 := hI.1.r.c1
              refine op_value (wanted_on _ a' 9 95 false (by rfl) (by rfl) hg) (v := .int .i64 (safe' : Int)) (w'' := w') ?_ (hK _ _ hI (fun _ _ h => h) rfl)
              clear hK
              simp only [execOp, e100]
              have f100 : a'.tmps[100]?.getD undef = .pointer (some ⟨q, 1, none⟩) := (Array.getD_eq_getD_getElem? ..).symm.trans e100
              clear e100
              first | rfl | (go_simp <;> exact IntWalk.i64_in _ (by omega))
            · intro a' w' K hI hd hq hK
              have hg := hd 9 95 (by kernel_rfl)
              have e97 : a'.eval (.tmp 97) = .int .i64 (safe' : Int) := (hd 11 97 (by kernel_rfl))
              have e101 : a'.eval (.tmp 101) = .int .i64 (safe' : Int) := (hd 15 101 (by kernel_rfl))
              clear hd hq
              refine op_value (wanted_on _ a' 9 95 false (by rfl) (by rfl) hg) (v := .bool false) (w'' := w') ?_ (hK _ _ hI (fun _ _ h => h) rfl)
              clear hK
              simp only [execOp, e97, e101]
              have f97 : a'.tmps[97]?.getD undef = .int .i64 (safe' : Int) := (Array.getD_eq_getD_getElem? ..).symm.trans e97
              have f101 : a'.tmps[101]?.getD undef = .int .i64 (safe' : Int) := (Array.getD_eq_getD_getElem? ..).symm.trans e101
              clear e97 e101
              first | rfl | (go_simp <;> exact IntWalk.i64_in _ (by omega))
            · intro a' w' K hI hd hq hK
              have e95 : a'.eval (.tmp 95) = .bool false := (hd 9 95 (by kernel_rfl))
              have e102 : a'.eval (.tmp 102) = .bool false := (hd 16 102 (by kernel_rfl))
              clear hd hq
              refine op_value (wanted_free _ _ (by rfl)) (v := .bool false) (w'' := w') ?_ (hK _ _ hI (fun _ _ h => h) rfl)
              clear hK
              simp only [execOp, e95, e102]
              have f95 : a'.tmps[95]?.getD undef = .bool false := (Array.getD_eq_getD_getElem? ..).symm.trans e95
              have f102 : a'.tmps[102]?.getD undef = .bool false := (Array.getD_eq_getD_getElem? ..).symm.trans e102
              clear e95 e102
              first | rfl | (go_simp <;> exact IntWalk.i64_in _ (by omega))
          case fin24 =>
            rintro w' hI _ rfl _ ⟨A6, c6, rfl, _⟩ _ rfl _ rfl _ rfl _ rfl _ rfl _ rfl _ rfl _ rfl _ rfl _ rfl _ rfl _ rfl _ rfl _ rfl _ rfl _ rfl
            simp only [Act.put, List.setIfInBounds_toArray, List.set_cons_zero, List.set_cons_succ, FinGoal]
            go_wp2_with fail
            go_roundg (80 - (i + 1))
            case measure => have := HK.out; have := HLT80.out; omega
            case rel => exact ⟨i + 1, _, _, b', safe', HLT.out, HLT80.out, rfl, by go_num, HBL'.out, hI.1, hI.2⟩
    · have hd2 : ¬ (i < L.length) ∨ ¬ (i < 80) := by omega
      have HD2 := Lib.hid hd2
      clear hd2 hlt
      by_cases hA : i < L.length
      · have h80 : decide ((i : Int) < 80) = false := by have := HD2.out; simp; omega
        go_wp2_with fail
        refine (known4_any _).mono ?_
        rintro e w4 ⟨rfl, hb⟩
        have B4 := Lib.hid (below_below HB.out HB.out.size hb)
        clear hb
        go_wp2_with fail
        go_ret
        exact ⟨rfl, B4.out⟩
      · have hA' : decide ((i : Int) < (L.length : Int)) = false := by simp; omega
        go_wp2_with fail
        refine (known4_any _).mono ?_
        rintro e w4 ⟨rfl, hb⟩
        have B4 := Lib.hid (below_below HB.out HB.out.size hb)
        clear hb
        go_wp2_with fail
        go_ret
        exact ⟨rfl, B4.out⟩

end Go.Proofs.Ytiefgnmekikckaa
