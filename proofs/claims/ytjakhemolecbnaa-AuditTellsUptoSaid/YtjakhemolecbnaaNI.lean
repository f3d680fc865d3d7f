/-
  The texts RfG, RfU of this proof in one (what is used of them): what each proves is said at its head. No conditions beyond those that each theorem says.
-/
import Derived.Test.YtjakhemolecbnaaNC3

/-
  The walks of the reference's reader in any state.
-/
section
set_option linter.unusedVariables false
set_option linter.unusedSimpArgs false
namespace Go.Proofs.Ytjakhemolecbnaa
open Go.RowKit

/-- The reference's reader at p, over bytes that are not its own. -/
structure RfAt (w : World) (p : Nat) (A : Option Addr) (c : Nat) (l : List UInt8) (s : Rs) : Prop where
  at_ : w.heap[p]? = some (.cells #[.slice A l.length c, .int .i64 (s.a : Int), .bool (decide (s.why ≠ 0)), .int .i64 s.why, .int .i64 s.en] 102 (0, 0))
  rb : RB w A l
  off : 0 < l.length → ∀ ad, A = some ad → ad.block ≠ p
  cap : l.length ≤ c
  le : s.a ≤ l.length
  z : s.why = 0 → s.en = 0
namespace RfAt
variable {w w' : World} {p : Nat} {A : Option Addr} {c : Nat} {l : List UInt8} {s : Rs}
theorem lt (h : RfAt w p A c l s) : p < w.heap.size := (Array.getElem?_eq_some_iff.1 h.at_).1
theorem c0 (h : RfAt w p A c l s) : w.cell? ⟨p, 0, none⟩ = some (.slice A l.length c) := by rw [cell_of_row w p 0 _ _ _ h.at_]; rfl
theorem c1 (h : RfAt w p A c l s) : w.cell? ⟨p, 1, none⟩ = some (.int .i64 (s.a : Int)) := by rw [cell_of_row w p 1 _ _ _ h.at_]; rfl
theorem c2 (h : RfAt w p A c l s) : w.cell? ⟨p, 2, none⟩ = some (.bool (decide (s.why ≠ 0))) := by rw [cell_of_row w p 2 _ _ _ h.at_]; rfl
theorem c3 (h : RfAt w p A c l s) : w.cell? ⟨p, 3, none⟩ = some (.int .i64 s.why) := by rw [cell_of_row w p 3 _ _ _ h.at_]; rfl
theorem c4 (h : RfAt w p A c l s) : w.cell? ⟨p, 4, none⟩ = some (.int .i64 s.en) := by rw [cell_of_row w p 4 _ _ _ h.at_]; rfl
theorem c2g (h : RfAt w p A c l s) (h0 : s.why = 0) : w.cell? ⟨p, 2, none⟩ = some (.bool false) := by rw [h.c2]; simp [h0]
theorem c2b (h : RfAt w p A c l s) (h0 : s.why ≠ 0) : w.cell? ⟨p, 2, none⟩ = some (.bool true) := by rw [h.c2]; simp [h0]
theorem f0 (h : RfAt w p A c l s) (j : Nat) : w.frozen? ⟨p, j, none⟩ = false := frozen_of_row w p j _ _ h.at_
theorem upd {F : Nat → Prop} (h : RfAt w p A c l s) (u : Upd F w w') (hp : ¬ F p) (hv : 0 < l.length → ∀ ad, A = some ad → ¬ F ad.block) : RfAt w' p A c l s :=
  ⟨(u.block p h.lt hp).trans h.at_, (h.rb.cells.upd u (fun h0 => hv (by rwa [bv_length] at h0))).bytes, h.off, h.cap, h.le, h.z⟩
theorem below (h : RfAt w p A c l s) (hb : Below w.heap.size w w') : RfAt w' p A c l s := h.upd (Upd.of_below (F := fun _ => False) hb) id (fun _ _ _ => id)
/-- Another state at the same place. -/
theorem turn {s' : Rs} (h : RfAt w p A c l s) (u : Upd (fun k => k = p) w w') (ha : w'.heap[p]? = some (.cells #[.slice A l.length c, .int .i64 (s'.a : Int), .bool (decide (s'.why ≠ 0)), .int .i64 s'.why, .int .i64 s'.en] 102 (0, 0)))
    (hle : s'.a ≤ l.length) (hz : s'.why = 0 → s'.en = 0) : RfAt w' p A c l s' :=
  ⟨ha, (h.rb.cells.upd u (fun h0 ad e => h.off (by rwa [bv_length] at h0) ad e)).bytes, h.off, h.cap, hle, hz⟩
end RfAt

set_option maxHeartbeats 1000000 in
theorem rfRefuse_any (w : World) (p : Nat) (A : Option Addr) (c : Nat) (l : List UInt8) (s : Rs) (h : RfAt w p A c l s) (h0 : s.why = 0) (why en : Int) (hw : why ≠ 0) :
    Calls Try.prog 81 #[.pointer (some ⟨p, 0, none⟩), .int .i64 why, .int .i64 en] w fun e w' => e = .returned (.tuple #[]) ∧ RfAt w' p A c l ⟨s.a, why, en⟩ ∧ Upd (fun k => k = p) w w' := by
  have k2 := h.c2g h0
  have k3 := h.c3
  have k4 := h.c4
  have f2 := h.f0 2
  have f3 := h.f0 3
  have f4 := h.f0 4
  have H := Lib.hid h
  have HW := Lib.hid hw
  clear h hw h0
  go_enter Try.func81, Try.ntmps81
  go_wp2_with fail
  go_end0
  have hu : Upd (fun k => k = p) w (((w.setCell ⟨p, 2, none⟩ (.bool true)).setCell ⟨p, 3, none⟩ (.int .i64 why)).setCell ⟨p, 4, none⟩ (.int .i64 en)) := (((Upd.refl (fun k => k = p) w).setCell (p := ⟨p, 2, none⟩) (fun _ => rfl) _).setCell (p := ⟨p, 3, none⟩) (fun _ => rfl) _).setCell (p := ⟨p, 4, none⟩) (fun _ => rfl) _
  refine ⟨rfl, H.out.turn hu ?_ H.out.le (fun e => absurd e HW.out), hu⟩
  rw [setCell_at (setCell_at (setCell_at H.out.at_ _) _) _]
  simp [HW.out]

set_option maxHeartbeats 1000000 in
theorem rfRawBad_any (w : World) (p : Nat) (A : Option Addr) (c : Nat) (l : List UInt8) (s : Rs) (h : RfAt w p A c l s) (h0 : s.why ≠ 0) (n : Int) :
    Calls Try.prog 63 #[.pointer (some ⟨p, 0, none⟩), .int .i64 n] w fun e w' => e = .returned (.slice none 0 0) ∧ w = w' := by
  have k2 := h.c2b h0
  clear h
  go_enter Try.func63, Try.ntmps63
  go_wp2_with fail
  go_ret
  exact ⟨rfl, rfl⟩

set_option maxHeartbeats 1000000 in
theorem rfRawShort_any (w : World) (p : Nat) (A : Option Addr) (c : Nat) (l : List UInt8) (s : Rs) (h : RfAt w p A c l s) (h0 : s.why = 0) (n : Nat) (hn : l.length < s.a + n) (hl : l.length ≤ 100000000) (hn2 : n ≤ 100000) :
    Calls Try.prog 63 #[.pointer (some ⟨p, 0, none⟩), .int .i64 (n : Int)] w fun e w' => e = .returned (.slice none 0 0) ∧ RfAt w' p A c l ⟨s.a, 10, l.length⟩ ∧ Upd (fun k => k = p) w w' := by
  have k0 := h.c0
  have k1 := h.c1
  have k2 := h.c2g h0
  have H := Lib.hid h
  have H0 := Lib.hid h0
  have hle := h.le
  clear h h0
  have hw1 : IntKind.i64.wrap ((l.length : Int) - (s.a : Int)) = (l.length : Int) - (s.a : Int) := by rw [IntKind.wrap_i64]; omega
  have hw2 : (l.length : Int) - (s.a : Int) < (n : Int) := by omega
  go_enter Try.func63, Try.ntmps63
  go_wp2_with fail
  go_region
  go_wp2_with fail
  refine (rfRefuse_any w.drew p A c l s (H.out.below ((Below.refl _ _).drew)) H0.out 10 (l.length : Int) (by omega)).mono ?_
  rintro e w2 ⟨rfl, hw, hu⟩
  have H2 := Lib.hid hw
  have HU := Lib.hid ((Upd.refl (fun k => k = p) w).drew.trans hu (fun _ _ h => h))
  clear hw hu
  go_wp2_with fail
  go_ret
  exact ⟨rfl, H2.out, HU.out⟩

set_option maxHeartbeats 4000000 in
theorem rfRawGood_any (w : World) (p b o : Nat) (c : Nat) (l : List UInt8) (s : Rs) (h : RfAt w p (some ⟨b, o, none⟩) c l s) (h0 : s.why = 0) (n : Nat) (hn : s.a + n ≤ l.length) (hl : l.length ≤ 100000000) (hl0 : 0 < l.length) :
    Calls Try.prog 63 #[.pointer (some ⟨p, 0, none⟩), .int .i64 (n : Int)] w fun e w' => ∃ A2 c2, e = .returned (.slice A2 n c2) ∧ RB w' A2 ((l.drop s.a).take n) ∧ (∀ ad, A2 = some ad → w.heap.size ≤ ad.block) ∧ RfAt w' p (some ⟨b, o, none⟩) c l ⟨s.a + n, s.why, s.en⟩ ∧ Upd (fun k => k = p) w w' := by
  have k0 := h.c0
  have k1 := h.c1
  have k2 := h.c2g h0
  have f1 := h.f0 1
  have H := Lib.hid h
  have H0 := Lib.hid h0
  have hcap := h.cap
  have hpl := h.lt
  clear h h0
  obtain ⟨a, ea⟩ : ∃ a, a = s.a := ⟨_, rfl⟩
  rw [← ea] at k1 hn
  have EA := Lib.hid ea
  clear ea
  have hw1 : IntKind.i64.wrap ((l.length : Int) - (a : Int)) = (l.length : Int) - (a : Int) := by rw [IntKind.wrap_i64]; omega
  have hw2 : ¬ ((l.length : Int) - (a : Int) < (n : Int)) := by omega
  have hw3 : IntKind.i64.wrap ((a : Int) + (n : Int)) = (a : Int) + (n : Int) := by rw [IntKind.wrap_i64]; omega
  have hx : ((l.drop a).take n).length = n := by rw [List.length_take, List.length_drop]; omega
  obtain ⟨x, ex⟩ : ∃ x, x = (l.drop a).take n := ⟨_, rfl⟩
  rw [← EA.out, ← ex]
  rw [← ex] at hx
  have HX := Lib.hid hx
  have hrx : ∀ (W : World) (A2 : Option Addr), Below w.heap.size w W → (n = 0 ∨ A2 = some ⟨b, o + a, none⟩) → RB W A2 x := by
    intro W A2 hb hA
    rcases hA with hA | rfl
    · rw [show x = [] from List.eq_nil_of_length_eq_zero (by omega)]
      exact RB.nil _ _
    · intro hx0
      refine ⟨_, rfl, fun j hj => ?_⟩
      have hlj : a + j < l.length := by omega
      obtain ⟨ad, e, hc⟩ := (H.out.rb.below hb) hl0
      have e2 := Option.some.inj e
      subst e2
      have h1 := hc (a + j) hlj
      rw [add_off] at h1 ⊢
      rw [← Nat.add_assoc] at h1
      rw [h1]
      simp [ex]
  have HRX := Lib.hid hrx
  clear hrx ex hx
  have b0 : (0 : Int) ≤ (a : Int) := by omega
  have b1 : (a : Int) ≤ (a : Int) + (n : Int) := by omega
  have b2 : (a : Int) + (n : Int) ≤ (c : Int) := by omega
  have b3 : (0 : Int) ≤ (a : Int) + (n : Int) := by omega
  have b4 : a + n - a = n := by omega
  have HLN := Lib.hid hn
  by_cases hca : c = a
  · obtain rfl : n = 0 := by omega
    have hal : a = l.length := by omega
    subst hca
    have hwc : IntKind.i64.wrap (c : Int) = (c : Int) := by rw [IntKind.wrap_i64]; omega
    clear hal b1 b2 b4 hw2
    go_enter Try.func63, Try.ntmps63
    go_wp2_with fail
    go_region
    go_upto_region 6 with fail
    obtain ⟨W2, hW2⟩ : ∃ W2, W2 = w.drew := ⟨_, rfl⟩
    rw [← hW2]
    have hb2 : Below w.heap.size w W2 := by rw [hW2]; exact (Below.refl _ _).drew
    have hs2 : W2.heap.size = w.heap.size := by rw [hW2]; rfl
    have H2 := Lib.hid (H.out.below hb2)
    have HB2 := Lib.hid hb2
    have HS2 := Lib.hid hs2
    have E0 := Lib.hid (show (W2.alloc (.cells #[] 5)).ownsRow W2.heap.size 5 1 (.slice (some ⟨W2.heap.size, 0, none⟩) 0 0) 0 [] from
      ⟨rfl, .inr ⟨_, 0, #[], rfl, Nat.le_refl _, heap_alloc_new W2 _, Nat.le_refl _, by simp [maxLen], rfl, rfl⟩⟩)
    have k0 := H2.out.c0
    have k1 : W2.cell? ⟨p, 1, none⟩ = some (.int .i64 (c : Int)) := by have := H2.out.c1; rwa [← EA.out] at this
    have c0a : ∀ ob, (W2.alloc ob).cell? ⟨p, 0, none⟩ = some (.slice (some ⟨b, o, none⟩) l.length (c)) := fun ob => Lib.cell?_alloc_some ob k0
    have c0b : ∀ ob, (W2.drew.alloc ob).cell? ⟨p, 0, none⟩ = some (.slice (some ⟨b, o, none⟩) l.length (c)) := fun ob => Lib.cell?_alloc_some ob k0
    have c1a : ∀ ob, (W2.alloc ob).cell? ⟨p, 1, none⟩ = some (.int .i64 (c : Int)) := fun ob => Lib.cell?_alloc_some ob k1
    have c1b : ∀ ob, (W2.drew.alloc ob).cell? ⟨p, 1, none⟩ = some (.int .i64 (c : Int)) := fun ob => Lib.cell?_alloc_some ob k1
    have hpl2 : p < W2.heap.size := H2.out.lt
    clear hW2 hb2 hs2
    go_region_law (refine step_append_any rfl (.tmp 29) (.tmp 44) 25 rfl W2.heap.size 5 _ 1 1 Try.underlying25 info8 rfl (by omega) (by omega) (.slice (some ⟨W2.heap.size, 0, none⟩) 0 0) 0 [] (by simp [Act.eval, Act.put]) E0.out (some ⟨b, o, none⟩) (0) (0) (bv x) (by simp [Act.eval, Act.put]; try omega) (by rw [bv_length, HX.out]; try omega) ((HRX.out _ _ (below_below HB2.out HB2.out.size (((Below.refl _ _).alloc (Nat.le_refl _) _).drew)) (by simp)).cells) (bv_one _) (by omega) (by show W2.heap.size ≤ (W2.alloc _).heap.size; simp) ?_; intro v5 w5 ho5 hg5 hv5; obtain ⟨A5, c5, rfl, _⟩ := own_slice ho5)
    all_goals
      have hx5 : Upd (fun _ => False) W2 w5 := ((Upd.refl (fun _ => False) W2).alloc (.cells #[] 5)).drew.grown hg5 (fun k hk hlt => absurd hlt (by have := Option.some.inj (show some W2.heap.size = some k from hk); omega))
      have ho5' : w5.ownsRow W2.heap.size 5 1 (.slice A5 (0) c5) (0) (bv x) := by simpa using ho5
      have hrf5 := H2.out.upd hx5 id (fun _ _ _ => id)
      have j1 : w5.cell? ⟨p, 1, none⟩ = some (.int .i64 (c : Int)) := by have := hrf5.c1; rwa [← EA.out] at this
      have f5 := hrf5.f0 1
      have HO5 := Lib.hid ho5'
      have HRF := Lib.hid hrf5
      have HX5 := Lib.hid ((Upd.of_below (F := fun k => k = p) HB2.out).trans hx5 (fun _ _ h => h.elim))
      clear ho5 hg5 hv5 hx5 ho5' hrf5 c0a c0b c1a c1b k0 k1
      go_wp2_with fail
      go_ret
      have hu : Upd (fun k => k = p) w5 (w5.setCell ⟨p, 1, none⟩ (.int .i64 ((c : Int) + ((0 : Nat) : Int)))) := (Upd.refl (fun k => k = p) w5).setCell (p := ⟨p, 1, none⟩) (fun _ => rfl) _
      have hlt5 : ∀ ad, A5 = some ad → w.heap.size ≤ ad.block := by
        intro ad e
        subst e
        have := (HO5.out.lt ad.block rfl).1
        have := HS2.out
        omega
      refine ⟨A5, c5, rfl, ((own_RC HO5.out).bytes.cells.upd hu (fun _ ad e hk => by have := hlt5 ad e; have := H.out.lt; omega)).bytes, hlt5, HRF.out.turn hu ?_ (by have := HLN.out; dsimp only; omega) H.out.z, HX5.out.trans hu (fun _ _ h => h)⟩
      rw [setCell_at HRF.out.at_, ← EA.out]
      rfl
  · skip
    go_enter Try.func63, Try.ntmps63
    go_wp2_with fail
    go_region
    go_upto_region 6 with fail
    obtain ⟨W2, hW2⟩ : ∃ W2, W2 = w.drew := ⟨_, rfl⟩
    rw [← hW2]
    have hb2 : Below w.heap.size w W2 := by rw [hW2]; exact (Below.refl _ _).drew
    have hs2 : W2.heap.size = w.heap.size := by rw [hW2]; rfl
    have H2 := Lib.hid (H.out.below hb2)
    have HB2 := Lib.hid hb2
    have HS2 := Lib.hid hs2
    have E0 := Lib.hid (show (W2.alloc (.cells #[] 5)).ownsRow W2.heap.size 5 1 (.slice (some ⟨W2.heap.size, 0, none⟩) 0 0) 0 [] from
      ⟨rfl, .inr ⟨_, 0, #[], rfl, Nat.le_refl _, heap_alloc_new W2 _, Nat.le_refl _, by simp [maxLen], rfl, rfl⟩⟩)
    have k0 := H2.out.c0
    have k1 : W2.cell? ⟨p, 1, none⟩ = some (.int .i64 (a : Int)) := by have := H2.out.c1; rwa [← EA.out] at this
    have c0a : ∀ ob, (W2.alloc ob).cell? ⟨p, 0, none⟩ = some (.slice (some ⟨b, o, none⟩) l.length (c)) := fun ob => Lib.cell?_alloc_some ob k0
    have c0b : ∀ ob, (W2.drew.alloc ob).cell? ⟨p, 0, none⟩ = some (.slice (some ⟨b, o, none⟩) l.length (c)) := fun ob => Lib.cell?_alloc_some ob k0
    have c1a : ∀ ob, (W2.alloc ob).cell? ⟨p, 1, none⟩ = some (.int .i64 (a : Int)) := fun ob => Lib.cell?_alloc_some ob k1
    have c1b : ∀ ob, (W2.drew.alloc ob).cell? ⟨p, 1, none⟩ = some (.int .i64 (a : Int)) := fun ob => Lib.cell?_alloc_some ob k1
    have hpl2 : p < W2.heap.size := H2.out.lt
    clear hW2 hb2 hs2
    go_region_law (refine step_append_any rfl (.tmp 29) (.tmp 44) 25 rfl W2.heap.size 5 _ 1 1 Try.underlying25 info8 rfl (by omega) (by omega) (.slice (some ⟨W2.heap.size, 0, none⟩) 0 0) 0 [] (by simp [Act.eval, Act.put]) E0.out (some ⟨b, o + a, none⟩) (n) (c - a) (bv x) (by simp [Act.eval, Act.put]; try omega) (by rw [bv_length, HX.out]; try omega) ((HRX.out _ _ (below_below HB2.out HB2.out.size (((Below.refl _ _).alloc (Nat.le_refl _) _).drew)) (.inr rfl)).cells) (bv_one _) (by omega) (by show W2.heap.size ≤ (W2.alloc _).heap.size; simp) ?_; intro v5 w5 ho5 hg5 hv5; obtain ⟨A5, c5, rfl, _⟩ := own_slice ho5)
    all_goals
      have hx5 : Upd (fun _ => False) W2 w5 := ((Upd.refl (fun _ => False) W2).alloc (.cells #[] 5)).drew.grown hg5 (fun k hk hlt => absurd hlt (by have := Option.some.inj (show some W2.heap.size = some k from hk); omega))
      have ho5' : w5.ownsRow W2.heap.size 5 1 (.slice A5 (n) c5) (n) (bv x) := by simpa using ho5
      have hrf5 := H2.out.upd hx5 id (fun _ _ _ => id)
      have j1 : w5.cell? ⟨p, 1, none⟩ = some (.int .i64 (a : Int)) := by have := hrf5.c1; rwa [← EA.out] at this
      have f5 := hrf5.f0 1
      have HO5 := Lib.hid ho5'
      have HRF := Lib.hid hrf5
      have HX5 := Lib.hid ((Upd.of_below (F := fun k => k = p) HB2.out).trans hx5 (fun _ _ h => h.elim))
      clear ho5 hg5 hv5 hx5 ho5' hrf5 c0a c0b c1a c1b k0 k1
      go_wp2_with fail
      go_ret
      have hu : Upd (fun k => k = p) w5 (w5.setCell ⟨p, 1, none⟩ (.int .i64 ((a : Int) + (n : Int)))) := (Upd.refl (fun k => k = p) w5).setCell (p := ⟨p, 1, none⟩) (fun _ => rfl) _
      have hlt5 : ∀ ad, A5 = some ad → w.heap.size ≤ ad.block := by
        intro ad e
        subst e
        have := (HO5.out.lt ad.block rfl).1
        have := HS2.out
        omega
      refine ⟨A5, c5, rfl, ((own_RC HO5.out).bytes.cells.upd hu (fun _ ad e hk => by have := hlt5 ad e; have := H.out.lt; omega)).bytes, hlt5, HRF.out.turn hu ?_ (by have := HLN.out; dsimp only; omega) H.out.z, HX5.out.trans hu (fun _ _ h => h)⟩
      rw [setCell_at HRF.out.at_, ← EA.out]
      rfl

end Go.Proofs.Ytjakhemolecbnaa
end

/-
  The walks of the reference's reader: numbers, counts, texts, the end.
-/
section
set_option linter.unusedVariables false
set_option linter.unusedSimpArgs false
namespace Go.Proofs.Ytjakhemolecbnaa
open Go.RowKit

theorem rfRaw_g (w : World) (p : Nat) (A : Option Addr) (c : Nat) (l : List UInt8) (s : Rs) (h : RfAt w p A c l s) (n : Nat) (hn : n ≤ 100000) (hl : l.length ≤ 100000000) (hz : s.why = 0 → 0 < n ∨ 0 < l.length) :
    Calls Try.prog 63 #[.pointer (some ⟨p, 0, none⟩), .int .i64 (n : Int)] w fun e w' => ∃ A2 c2, e = .returned (.slice A2 (rawS l n s).1.length c2) ∧ RB w' A2 (rawS l n s).1 ∧ (∀ ad, A2 = some ad → w.heap.size ≤ ad.block) ∧ RfAt w' p A c l (rawS l n s).2 ∧ Upd (fun k => k = p) w w' := by
  unfold rawS
  by_cases h0 : s.why = 0
  · rw [if_neg (by simpa using h0)]
    by_cases h1 : l.length < s.a + n
    · rw [if_pos h1]
      refine (rfRawShort_any w p A c l s h h0 n h1 hl hn).mono ?_
      rintro e w' ⟨rfl, hr, hu⟩
      exact ⟨none, 0, rfl, RB.nil _ _, (fun ad e => by cases e), hr, hu⟩
    · rw [if_neg h1]
      have hl0 : 0 < l.length := by rcases hz h0 with h | h <;> omega
      have e1 : ((l.drop s.a).take n).length = n := by rw [List.length_take, List.length_drop]; omega
      obtain ⟨b, o, rfl, _⟩ := h.rb.parts hl0
      refine (rfRawGood_any w p b o c l s h h0 n (by omega) hl hl0).mono ?_
      rintro e w' ⟨A2, c2, rfl, hr, hb, hf, hu⟩
      exact ⟨A2, c2, by rw [e1], hr, hb, hf, hu⟩
  · rw [if_pos h0]
    refine (rfRawBad_any w p A c l s h h0 (n : Int)).mono ?_
    rintro e w' ⟨rfl, rfl⟩
    exact ⟨none, 0, rfl, RB.nil _ _, (fun ad e => by cases e), h, Upd.refl _ _⟩

set_option maxHeartbeats 4000000 in
theorem rfNumber_g (w : World) (p : Nat) (A : Option Addr) (c : Nat) (l : List UInt8) (s : Rs) (h : RfAt w p A c l s) (n : Nat) (hn0 : 0 < n) (hn8 : n ≤ 7) (hl : l.length ≤ 100000000) :
    Calls Try.prog 72 #[.pointer (some ⟨p, 0, none⟩), .int .i64 (n : Int)] w fun e w' => e = .returned (.int .u64 (numOf (rawS l n s).1 : Nat)) ∧ RfAt w' p A c l (rawS l n s).2 ∧ Upd (fun k => k = p) w w' := by
  have hx := rawS_length l n s
  obtain ⟨x, ex⟩ : ∃ x, x = (rawS l n s).1 := ⟨_, rfl⟩
  obtain ⟨m, em⟩ : ∃ m, m = x.length := ⟨_, rfl⟩
  rw [← ex] at hx ⊢
  rw [← em] at hx
  obtain ⟨s2, es⟩ : ∃ s2, s2 = (rawS l n s).2 := ⟨_, rfl⟩
  rw [← es]
  have EM := Lib.hid em
  have HM7 : m ≤ 7 := by omega
  go_enter Try.func72, Try.ntmps72
  go_wp2_with fail
  refine (rfRaw_g w p A c l s h n (by omega) hl (fun _ => .inl hn0)).mono ?_
  rw [← ex, ← es, ← em]
  rintro e w1 ⟨A2, c2, rfl, hr, _, hf, hu⟩
  have H := Lib.hid hf
  have HR := Lib.hid hr
  have HU := Lib.hid hu
  clear h hf hr hu ex es em
  go_wp2_with fail
  go_loopg [6, 7] m (fun k s6 s7 wr => ∃ (i y : Nat), i ≤ m ∧ k = m - i ∧ s7 = .int .i64 (i : Int) ∧ s6 = .int .u64 (y : Int) ∧ y = numOf (x.take i) ∧ wr = w1)
  case atStart => exact ⟨0, 0, Nat.zero_le _, by omega, rfl, rfl, by simp [numOf], rfl⟩
  case round =>
    obtain ⟨i, y, hi, hk, rfl, rfl, hy, rfl⟩ := hrel
    have HK := Lib.hid hk
    clear hk
    by_cases hlt : i < m
    · have hix : i < x.length := by rw [← EM.out]; exact hlt
      obtain ⟨b, o, rfl, hc⟩ := HR.out.parts (by omega)
      have k1 := hc i hix
      have hs : numOf (x.take (i + 1)) = numOf (x.take i) * 256 + x[i].toNat := by
        rw [List.take_succ_eq_append_getElem (by omega), numOf_snoc]
      have hb1 : numOf (x.take i) < 72057594037927936 := by
        have h1 := numOf_lt (x.take i)
        have h2 : 256 ^ (x.take i).length ≤ 256 ^ 7 := Nat.pow_le_pow_right (by omega) (by rw [List.length_take]; omega)
        have h3 : 256 ^ 7 = 72057594037927936 := by decide
        omega
      rw [← hy] at hs hb1
      have ho := or64_low y x[i] hb1
      rw [← hs, Int.natCast_mul] at ho
      obtain ⟨y1, ey1⟩ : ∃ y1, y1 = numOf (x.take (i + 1)) := ⟨_, rfl⟩
      rw [← ey1] at ho
      have EY := Lib.hid ey1
      have hwb := un8_range x[i]
      have how : IntKind.u64.wrap (un8 x[i]) = un8 x[i] := by rw [IntKind.wrap_u64]; omega
      generalize x[i] = bb at *
      have hw1 : IntKind.u64.wrap ((y : Int) * 256) = (y : Int) * 256 := by rw [IntKind.wrap_u64]; omega
      clear hc hs hy hb1 ey1 hwb hix
      have ho' : bits .or .u64 ((y : Int) * 256) (un8 bb) = (y1 : Int) := ho
      clear ho
      have HLT := Lib.hid hlt
      go_wp2_with fail
      go_roundg (m - (i + 1))
      case measure => have := HK.out; have := HLT.out; omega
      case rel => exact ⟨i + 1, y1, HLT.out, rfl, by go_num, rfl, EY.out, rfl⟩
    · obtain rfl : i = m := by omega
      rw [show x.take i = x from List.take_of_length_le (by rw [← EM.out]; exact Nat.le_refl _)] at hy
      have HYY := Lib.hid hy
      clear hy
      go_wp2_with fail
      go_ret
      exact ⟨by rw [← HYY.out]; rfl, H.out, HU.out⟩

set_option maxHeartbeats 1000000 in
theorem rfFour_g (w : World) (p : Nat) (A : Option Addr) (c : Nat) (l : List UInt8) (s : Rs) (h : RfAt w p A c l s) (hl : l.length ≤ 100000000) :
    Calls Try.prog 80 #[.pointer (some ⟨p, 0, none⟩)] w fun e w' => e = .returned (.int .i64 ((fourS l s).1 : Nat)) ∧ RfAt w' p A c l (fourS l s).2 ∧ Upd (fun k => k = p) w w' := by
  have hlt := fourS_lt l s
  obtain ⟨y, ey⟩ : ∃ y, y = (fourS l s).1 := ⟨_, rfl⟩
  rw [← ey] at hlt ⊢
  go_enter Try.func80, Try.ntmps80
  go_wp2_with fail
  refine (rfNumber_g w p A c l s h 4 (by omega) (by omega) hl).mono ?_
  rw [show numOf (rawS l 4 s).1 = y from ey.symm]
  rintro e w1 ⟨rfl, hw, hb⟩
  have H := Lib.hid hw
  have HB := Lib.hid hb
  clear hw hb h ey
  have hw : IntKind.i64.wrap (y : Int) = (y : Int) := by rw [IntKind.wrap_i64]; omega
  clear hlt
  go_wp2_with fail
  go_ret
  exact ⟨rfl, H.out, HB.out⟩

theorem fourS_keep (l : List UInt8) (s : Rs) (hm : (fourS l s).1 ≠ 0) : (fourS l s).2.why = 0 := by
  by_cases hw : s.why = 0
  · unfold fourS rawS at hm ⊢
    rw [if_neg (by simpa using hw)] at hm ⊢
    split
    · rename_i h3
      rw [if_pos h3] at hm
      simp [numOf] at hm
    · exact hw
  · rw [fourS_bad hw] at hm
    exact absurd rfl hm

set_option maxHeartbeats 1000000 in
theorem rfCount_g (w : World) (p : Nat) (A : Option Addr) (c : Nat) (l : List UInt8) (s : Rs) (h : RfAt w p A c l s) (hl : l.length ≤ 100000000) (most : Nat) (hmo : most ≤ 100000) :
    Calls Try.prog 62 #[.pointer (some ⟨p, 0, none⟩), .int .i64 (most : Int)] w fun e w' => e = .returned (.int .i64 ((countS l most s).1 : Nat)) ∧ RfAt w' p A c l (countS l most s).2 ∧ Upd (fun k => k = p) w w' := by
  have H := Lib.hid h
  have k1 := h.c1
  have hkeep := fourS_keep l s
  unfold countS
  obtain ⟨m, em⟩ : ∃ m, m = (fourS l s).1 := ⟨_, rfl⟩
  obtain ⟨s2, es⟩ : ∃ s2, s2 = (fourS l s).2 := ⟨_, rfl⟩
  have E : fourS l s = (m, s2) := by rw [em, es]
  rw [E] at hkeep ⊢
  have HKP := Lib.hid hkeep
  have EM := Lib.hid em
  have ES := Lib.hid es
  dsimp only
  clear h hkeep em es E
  have hmz : ¬ ((most : Int) < 0) := by omega
  by_cases hgt : most < m
  · rw [if_pos hgt]
    have H0 := Lib.hid (HKP.out (by omega))
    have hgt' : (most : Int) < (m : Int) := by omega
    go_enter Try.func62, Try.ntmps62
    go_wp2_with fail
    refine (rfFour_g w p A c l s H.out hl).mono ?_
    rw [← EM.out, ← ES.out]
    rintro e w1 ⟨rfl, hw, hb⟩
    have k2 := hw.c2g H0.out
    have H1 := Lib.hid hw
    have HB := Lib.hid hb
    clear hw hb
    go_wp2_with fail
    refine (rfRefuse_any w1 p A c l s2 H1.out H0.out 3 (s.a : Int) (by omega)).mono ?_
    rintro e w2 ⟨rfl, hw, hu⟩
    have H2 := Lib.hid hw
    have HB2 := Lib.hid (HB.out.trans hu (fun _ _ h => h))
    clear hw hu
    go_wp2_with fail
    go_ret
    exact ⟨rfl, H2.out, HB2.out⟩
  · rw [if_neg hgt]
    have hgt' : ¬ ((most : Int) < (m : Int)) := by omega
    by_cases h0 : s2.why = 0
    · have H0 := Lib.hid h0
      go_enter Try.func62, Try.ntmps62
      go_wp2_with fail
      refine (rfFour_g w p A c l s H.out hl).mono ?_
      rw [← EM.out, ← ES.out]
      rintro e w1 ⟨rfl, hw, hb⟩
      have k2 := hw.c2g H0.out
      have H1 := Lib.hid hw
      have HB := Lib.hid hb
      clear hw hb h0
      go_wp2_with fail
      go_ret
      exact ⟨rfl, H1.out, HB.out⟩
    · have H0 := Lib.hid h0
      go_enter Try.func62, Try.ntmps62
      go_wp2_with fail
      refine (rfFour_g w p A c l s H.out hl).mono ?_
      rw [← EM.out, ← ES.out]
      rintro e w1 ⟨rfl, hw, hb⟩
      have k2 := hw.c2b H0.out
      have H1 := Lib.hid hw
      have HB := Lib.hid hb
      clear hw hb h0
      go_wp2_with fail
      go_ret
      exact ⟨rfl, H1.out, HB.out⟩

theorem countS_ok (l : List UInt8) (most : Nat) (s : Rs) (h : (countS l most s).2.why = 0) : s.why = 0 ∧ 4 ≤ l.length := by
  by_cases hw : s.why = 0
  · refine ⟨hw, ?_⟩
    unfold countS at h
    split at h
    · simp at h
    · unfold fourS rawS at h
      rw [if_neg (by simpa using hw)] at h
      split at h
      · simp at h
      · omega
  · rw [countS_bad hw] at h
    exact absurd h hw
set_option maxHeartbeats 1000000 in
theorem rfText_g (w : World) (p : Nat) (A : Option Addr) (c : Nat) (l : List UInt8) (s : Rs) (h : RfAt w p A c l s) (hl : l.length ≤ 100000000) (most : Nat) (hmo : most ≤ 100000) :
    Calls Try.prog 42 #[.pointer (some ⟨p, 0, none⟩), .int .i64 (most : Int)] w fun e w' => e = .returned (.string (strB (textS l most s).1)) ∧ RfAt w' p A c l (textS l most s).2 ∧ Upd (fun k => k = p) w w' := by
  have H := Lib.hid h
  clear h
  have hcl := countS_le l most s
  have hok := countS_ok l most s
  unfold textS
  obtain ⟨m, em⟩ : ∃ m, m = (countS l most s).1 := ⟨_, rfl⟩
  obtain ⟨s2, es⟩ : ∃ s2, s2 = (countS l most s).2 := ⟨_, rfl⟩
  rw [← em] at hcl
  rw [← es] at hok
  rw [← em, ← es]
  have EM := Lib.hid em
  have ES := Lib.hid es
  have HCL := Lib.hid hcl
  have HOK := Lib.hid hok
  obtain ⟨x, ex⟩ : ∃ x, x = (rawS l m s2).1 := ⟨_, rfl⟩
  rw [← ex]
  have EX := Lib.hid ex
  clear em es hcl ex hok
  go_enter Try.func42, Try.ntmps42
  go_wp2_with fail
  refine (rfCount_g w p A c l s H.out hl most hmo).mono ?_
  rw [← EM.out, ← ES.out]
  rintro e w1 ⟨rfl, hw, hb⟩
  have H1 := Lib.hid hw
  have HB1 := Lib.hid hb
  clear hw hb
  go_wp2_with fail
  refine (rfRaw_g w1 p A c l s2 H1.out m (by have := HCL.out; omega) hl (fun h0 => .inr (by have := (HOK.out h0).2; omega))).mono ?_
  rw [← EX.out]
  rintro e w2 ⟨A2, c2, rfl, hr, _, hw, hb⟩
  have hst := run_string_RB (P := Try.prog) w2 25 9 5 Try.underlying25 Try.underlying5 Try.underlying9 A2 x.length c2 x rfl hr
  have H2 := Lib.hid hw
  have HB2 := Lib.hid (HB1.out.trans hb (fun _ _ h => h))
  clear hw hb hr
  go_wp2_with fail
  go_ret
  exact ⟨rfl, H2.out, HB2.out⟩

set_option maxHeartbeats 1000000 in
theorem rfEnd_g (w : World) (p : Nat) (A : Option Addr) (c : Nat) (l : List UInt8) (s : Rs) (h : RfAt w p A c l s) (hl : l.length ≤ 100000000) :
    Calls Try.prog 43 #[.pointer (some ⟨p, 0, none⟩)] w fun e w' => e = .returned (.tuple #[.int .i64 (endS l s).1, .int .i64 (endS l s).2]) ∧ Below w.heap.size w w' := by
  unfold endS
  have k0 := h.c0
  have k1 := h.c1
  have k3 := h.c3
  have k4 := h.c4
  by_cases h0 : s.why = 0
  · rw [if_neg (by simpa using h0)]
    have k2 := h.c2g h0
    by_cases h1 : s.a < l.length
    · rw [if_pos h1]
      have hlt : ((s.a : Int) < (l.length : Int)) := by omega
      clear h h0
      go_enter Try.func43, Try.ntmps43
      go_wp2_with fail
      go_region
      all_goals
        go_wp2_with fail
        go_region
        all_goals
          go_wp2_with fail
          go_ret2
          exact ⟨rfl, ((Below.refl _ _).drew).drew⟩
    · rw [if_neg h1]
      have hlt : ¬ ((s.a : Int) < (l.length : Int)) := by omega
      clear h h0
      go_enter Try.func43, Try.ntmps43
      go_wp2_with fail
      go_region
      all_goals
        go_wp2_with fail
        go_ret2
        exact ⟨rfl, (Below.refl _ _).drew⟩
  · rw [if_pos h0]
    have k2 := h.c2b h0
    clear h h0
    go_enter Try.func43, Try.ntmps43
    go_wp2_with fail
    go_region
    all_goals
      go_wp2_with fail
      go_ret2
      exact ⟨rfl, (Below.refl _ _).drew⟩
end Go.Proofs.Ytjakhemolecbnaa
end
