/-
  The walks of the reference's reader in any state.
-/
import Derived.Test.YthlbmjjodjepjaaDecG
set_option linter.unusedVariables false
set_option linter.unusedSimpArgs false
namespace Go.Proofs.Ythlbmjjodjepjaa
open Go.RowKit

/-- The reference's reader at p, over bytes that are not its own. -/
structure RfAt (w : World) (p : Nat) (A : Option Addr) (c : Nat) (l : List UInt8) (s : Rs) : Prop where
  at_ : w.heap[p]? = some (.cells #[.slice A l.length c, .int .i64 (s.a : Int), .bool (decide (s.why ≠ 0)), .int .i64 s.why, .int .i64 s.en] 111 (0, 0))
  rb : RB w A l
  off : 0 < l.length → ∀ ad, A = some ad → ad.block ≠ p
  cap : l.length ≤ c
  le : s.a ≤ l.length
  z : s.why = 0 → s.en = 0
namespace RfAt
variable {w w' : World} {p : Nat} {A : Option Addr} {c : Nat} {l : List UInt8} {s : Rs}
theorem lt (h : RfAt w p A c l s) : p < w.heap.size := (Array.getElem?_eq_some_iff.1 h.at_).1
theorem c0 (h : RfAt w p A c l s) : w.cell? ⟨p, 0, none⟩ = some (.slice A l.length c) := by rw [cell_of_row w p 0 _ _ _ h.at_]; rfl
theorem c1 (h : RfAt w p A c l s) : w.cell? ⟨p, 1, none⟩ = some (.int .i64 (s.a : Int)) := by rw [cell_of_row w p 1 _ _ _ h.at_]; rfl
theorem c2 (h : RfAt w p A c l s) : w.cell? ⟨p, 2, none⟩ = some (.bool (decide (s.why ≠ 0))) := by rw [cell_of_row w p 2 _ _ _ h.at_]; rfl
theorem c3 (h : RfAt w p A c l s) : w.cell? ⟨p, 3, none⟩ = some (.int .i64 s.why) := by rw [cell_of_row w p 3 _ _ _ h.at_]; rfl
theorem c4 (h : RfAt w p A c l s) : w.cell? ⟨p, 4, none⟩ = some (.int .i64 s.en) := by rw [cell_of_row w p 4 _ _ _ h.at_]; rfl
theorem c2g (h : RfAt w p A c l s) (h0 : s.why = 0) : w.cell? ⟨p, 2, none⟩ = some (.bool false) := by rw [h.c2]; simp [h0]
theorem c2b (h : RfAt w p A c l s) (h0 : s.why ≠ 0) : w.cell? ⟨p, 2, none⟩ = some (.bool true) := by rw [h.c2]; simp [h0]
theorem f0 (h : RfAt w p A c l s) (j : Nat) : w.frozen? ⟨p, j, none⟩ = false := frozen_of_row w p j _ _ h.at_
theorem upd {F : Nat → Prop} (h : RfAt w p A c l s) (u : Upd F w w') (hp : ¬ F p) (hv : 0 < l.length → ∀ ad, A = some ad → ¬ F ad.block) : RfAt w' p A c l s :=
  ⟨(u.block p h.lt hp).trans h.at_, (h.rb.cells.upd u (fun h0 => hv (by rwa [bv_length] at h0))).bytes, h.off, h.cap, h.le, h.z⟩
theorem below (h : RfAt w p A c l s) (hb : Below w.heap.size w w') : RfAt w' p A c l s := h.upd (Upd.of_below (F := fun _ => False) hb) id (fun _ _ _ => id)
/-- Another state at the same place. -/
theorem turn {s' : Rs} (h : RfAt w p A c l s) (u : Upd (fun k => k = p) w w') (ha : w'.heap[p]? = some (.cells #[.slice A l.length c, .int .i64 (s'.a : Int), .bool (decide (s'.why ≠ 0)), .int .i64 s'.why, .int .i64 s'.en] 111 (0, 0)))
    (hle : s'.a ≤ l.length) (hz : s'.why = 0 → s'.en = 0) : RfAt w' p A c l s' :=
  ⟨ha, (h.rb.cells.upd u (fun h0 ad e => h.off (by rwa [bv_length] at h0) ad e)).bytes, h.off, h.cap, hle, hz⟩
end RfAt

set_option maxHeartbeats 1000000 in
theorem rfRefuse_any (w : World) (p : Nat) (A : Option Addr) (c : Nat) (l : List UInt8) (s : Rs) (h : RfAt w p A c l s) (h0 : s.why = 0) (why en : Int) (hw : why ≠ 0) :
    Calls Try.prog 90 #[.pointer (some ⟨p, 0, none⟩), .int .i64 why, .int .i64 en] w fun e w' => e = .returned (.tuple #[]) ∧ RfAt w' p A c l ⟨s.a, why, en⟩ ∧ Upd (fun k => k = p) w w' := by
  have k2 := h.c2g h0
  have k3 := h.c3
  have k4 := h.c4
  have f2 := h.f0 2
  have f3 := h.f0 3
  have f4 := h.f0 4
  have H := Lib.hid h
  have HW := Lib.hid hw
  clear h hw h0
  go_enter Try.func90, Try.ntmps90
  go_wp2_with fail
  go_end0
  have hu : Upd (fun k => k = p) w (((w.setCell ⟨p, 2, none⟩ (.bool true)).setCell ⟨p, 3, none⟩ (.int .i64 why)).setCell ⟨p, 4, none⟩ (.int .i64 en)) := (((Upd.refl (fun k => k = p) w).setCell (p := ⟨p, 2, none⟩) (fun _ => rfl) _).setCell (p := ⟨p, 3, none⟩) (fun _ => rfl) _).setCell (p := ⟨p, 4, none⟩) (fun _ => rfl) _
  refine ⟨rfl, H.out.turn hu ?_ H.out.le (fun e => absurd e HW.out), hu⟩
  rw [setCell_at (setCell_at (setCell_at H.out.at_ _) _) _]
  simp [HW.out]

set_option maxHeartbeats 1000000 in
theorem rfRawBad_any (w : World) (p : Nat) (A : Option Addr) (c : Nat) (l : List UInt8) (s : Rs) (h : RfAt w p A c l s) (h0 : s.why ≠ 0) (n : Int) :
    Calls Try.prog 78 #[.pointer (some ⟨p, 0, none⟩), .int .i64 n] w fun e w' => e = .returned (.slice none 0 0) ∧ w = w' := by
  have k2 := h.c2b h0
  clear h
  go_enter Try.func78, Try.ntmps78
  go_wp2_with fail
  go_ret
  exact ⟨rfl, rfl⟩

set_option maxHeartbeats 1000000 in
theorem rfRawShort_any (w : World) (p : Nat) (A : Option Addr) (c : Nat) (l : List UInt8) (s : Rs) (h : RfAt w p A c l s) (h0 : s.why = 0) (n : Nat) (hn : l.length < s.a + n) (hl : l.length ≤ 100000000) (hn2 : n ≤ 100000) :
    Calls Try.prog 78 #[.pointer (some ⟨p, 0, none⟩), .int .i64 (n : Int)] w fun e w' => e = .returned (.slice none 0 0) ∧ RfAt w' p A c l ⟨s.a, 10, l.length⟩ ∧ Upd (fun k => k = p) w w' := by
  have k0 := h.c0
  have k1 := h.c1
  have k2 := h.c2g h0
  have H := Lib.hid h
  have H0 := Lib.hid h0
  have hle := h.le
  clear h h0
  have hw1 : IntKind.i64.wrap ((l.length : Int) - (s.a : Int)) = (l.length : Int) - (s.a : Int) := by rw [IntKind.wrap_i64]; omega
  have hw2 : (l.length : Int) - (s.a : Int) < (n : Int) := by omega
  go_enter Try.func78, Try.ntmps78
  go_wp2_with fail
  go_region
  go_wp2_with fail
  refine (rfRefuse_any w.drew p A c l s (H.out.below ((Below.refl _ _).drew)) H0.out 10 (l.length : Int) (by omega)).mono ?_
  rintro e w2 ⟨rfl, hw, hu⟩
  have H2 := Lib.hid hw
  have HU := Lib.hid ((Upd.refl (fun k => k = p) w).drew.trans hu (fun _ _ h => h))
  clear hw hu
  go_wp2_with fail
  go_ret
  exact ⟨rfl, H2.out, HU.out⟩

set_option maxHeartbeats 4000000 in
theorem rfRawGood_any (w : World) (p b o : Nat) (c : Nat) (l : List UInt8) (s : Rs) (h : RfAt w p (some ⟨b, o, none⟩) c l s) (h0 : s.why = 0) (n : Nat) (hn : s.a + n ≤ l.length) (hl : l.length ≤ 100000000) (hl0 : 0 < l.length) :
    Calls Try.prog 78 #[.pointer (some ⟨p, 0, none⟩), .int .i64 (n : Int)] w fun e w' => ∃ A2 c2, e = .returned (.slice A2 n c2) ∧ RB w' A2 ((l.drop s.a).take n) ∧ (∀ ad, A2 = some ad → w.heap.size ≤ ad.block) ∧ RfAt w' p (some ⟨b, o, none⟩) c l ⟨s.a + n, s.why, s.en⟩ ∧ Upd (fun k => k = p) w w' := by
  have k0 := h.c0
  have k1 := h.c1
  have k2 := h.c2g h0
  have f1 := h.f0 1
  have H := Lib.hid h
  have H0 := Lib.hid h0
  have hcap := h.cap
  have hpl := h.lt
  clear h h0
  obtain ⟨a, ea⟩ : ∃ a, a = s.a := ⟨_, rfl⟩
  rw [← ea] at k1 hn
  have EA := Lib.hid ea
  clear ea
  have hw1 : IntKind.i64.wrap ((l.length : Int) - (a : Int)) = (l.length : Int) - (a : Int) := by rw [IntKind.wrap_i64]; omega
  have hw2 : ¬ ((l.length : Int) - (a : Int) < (n : Int)) := by omega
  have hw3 : IntKind.i64.wrap ((a : Int) + (n : Int)) = (a : Int) + (n : Int) := by rw [IntKind.wrap_i64]; omega
  have hx : ((l.drop a).take n).length = n := by rw [List.length_take, List.length_drop]; omega
  obtain ⟨x, ex⟩ : ∃ x, x = (l.drop a).take n := ⟨_, rfl⟩
  rw [← EA.out, ← ex]
  rw [← ex] at hx
  have HX := Lib.hid hx
  have hrx : ∀ (W : World) (A2 : Option Addr), Below w.heap.size w W → (n = 0 ∨ A2 = some ⟨b, o + a, none⟩) → RB W A2 x := by
    intro W A2 hb hA
    rcases hA with hA | rfl
    · rw [show x = [] from List.eq_nil_of_length_eq_zero (by omega)]
      exact RB.nil _ _
    · intro hx0
      refine ⟨_, rfl, fun j hj => ?_⟩
      have hlj : a + j < l.length := by omega
      obtain ⟨ad, e, hc⟩ := (H.out.rb.below hb) hl0
      have e2 := Option.some.inj e
      subst e2
      have h1 := hc (a + j) hlj
      rw [add_off] at h1 ⊢
      rw [← Nat.add_assoc] at h1
      rw [h1]
      simp [ex]
  have HRX := Lib.hid hrx
  clear hrx ex hx
  have b0 : (0 : Int) ≤ (a : Int) := by omega
  have b1 : (a : Int) ≤ (a : Int) + (n : Int) := by omega
  have b2 : (a : Int) + (n : Int) ≤ (c : Int) := by omega
  have b3 : (0 : Int) ≤ (a : Int) + (n : Int) := by omega
  have b4 : a + n - a = n := by omega
  have HLN := Lib.hid hn
  by_cases hca : c = a
  · obtain rfl : n = 0 := by omega
    have hal : a = l.length := by omega
    subst hca
    have hwc : IntKind.i64.wrap (c : Int) = (c : Int) := by rw [IntKind.wrap_i64]; omega
    clear hal b1 b2 b4 hw2
    go_enter Try.func78, Try.ntmps78
    go_wp2_with fail
    go_region
    go_upto_region 6 with fail
    obtain ⟨W2, hW2⟩ : ∃ W2, W2 = w.drew := ⟨_, rfl⟩
    rw [← hW2]
    have hb2 : Below w.heap.size w W2 := by rw [hW2]; exact (Below.refl _ _).drew
    have hs2 : W2.heap.size = w.heap.size := by rw [hW2]; rfl
    have H2 := Lib.hid (H.out.below hb2)
    have HB2 := Lib.hid hb2
    have HS2 := Lib.hid hs2
    have E0 := Lib.hid (show (W2.alloc (.cells #[] 5)).ownsRow W2.heap.size 5 1 (.slice (some ⟨W2.heap.size, 0, none⟩) 0 0) 0 [] from
      ⟨rfl, .inr ⟨_, 0, #[], rfl, Nat.le_refl _, heap_alloc_new W2 _, Nat.le_refl _, by simp [maxLen], rfl, rfl⟩⟩)
    have k0 := H2.out.c0
    have k1 : W2.cell? ⟨p, 1, none⟩ = some (.int .i64 (c : Int)) := by have := H2.out.c1; rwa [← EA.out] at this
    have c0a : ∀ ob, (W2.alloc ob).cell? ⟨p, 0, none⟩ = some (.slice (some ⟨b, o, none⟩) l.length (c)) := fun ob => Lib.cell?_alloc_some ob k0
    have c0b : ∀ ob, (W2.drew.alloc ob).cell? ⟨p, 0, none⟩ = some (.slice (some ⟨b, o, none⟩) l.length (c)) := fun ob => Lib.cell?_alloc_some ob k0
    have c1a : ∀ ob, (W2.alloc ob).cell? ⟨p, 1, none⟩ = some (.int .i64 (c : Int)) := fun ob => Lib.cell?_alloc_some ob k1
    have c1b : ∀ ob, (W2.drew.alloc ob).cell? ⟨p, 1, none⟩ = some (.int .i64 (c : Int)) := fun ob => Lib.cell?_alloc_some ob k1
    have hpl2 : p < W2.heap.size := H2.out.lt
    clear hW2 hb2 hs2
    go_region_law (refine step_append_any rfl (.tmp 29) (.tmp 44) 37 rfl W2.heap.size 5 _ 1 1 Try.underlying37 info8 rfl (by omega) (by omega) (.slice (some ⟨W2.heap.size, 0, none⟩) 0 0) 0 [] (by simp [Act.eval, Act.put]) E0.out (some ⟨b, o, none⟩) (0) (0) (bv x) (by simp [Act.eval, Act.put]; try omega) (by rw [bv_length, HX.out]; try omega) ((HRX.out _ _ (below_below HB2.out HB2.out.size (((Below.refl _ _).alloc (Nat.le_refl _) _).drew)) (by simp)).cells) (bv_one _) (by omega) (by show W2.heap.size ≤ (W2.alloc _).heap.size; simp) ?_; intro v5 w5 ho5 hg5 hv5; obtain ⟨A5, c5, rfl, _⟩ := own_slice ho5)
    all_goals
      have hx5 : Upd (fun _ => False) W2 w5 := ((Upd.refl (fun _ => False) W2).alloc (.cells #[] 5)).drew.grown hg5 (fun k hk hlt => absurd hlt (by have := Option.some.inj (show some W2.heap.size = some k from hk); omega))
      have ho5' : w5.ownsRow W2.heap.size 5 1 (.slice A5 (0) c5) (0) (bv x) := by simpa using ho5
      have hrf5 := H2.out.upd hx5 id (fun _ _ _ => id)
      have j1 : w5.cell? ⟨p, 1, none⟩ = some (.int .i64 (c : Int)) := by have := hrf5.c1; rwa [← EA.out] at this
      have f5 := hrf5.f0 1
      have HO5 := Lib.hid ho5'
      have HRF := Lib.hid hrf5
      have HX5 := Lib.hid ((Upd.of_below (F := fun k => k = p) HB2.out).trans hx5 (fun _ _ h => h.elim))
      clear ho5 hg5 hv5 hx5 ho5' hrf5 c0a c0b c1a c1b k0 k1
      go_wp2_with fail
      go_ret
      have hu : Upd (fun k => k = p) w5 (w5.setCell ⟨p, 1, none⟩ (.int .i64 ((c : Int) + ((0 : Nat) : Int)))) := (Upd.refl (fun k => k = p) w5).setCell (p := ⟨p, 1, none⟩) (fun _ => rfl) _
      have hlt5 : ∀ ad, A5 = some ad → w.heap.size ≤ ad.block := by
        intro ad e
        subst e
        have := (HO5.out.lt ad.block rfl).1
        have := HS2.out
        omega
      refine ⟨A5, c5, rfl, ((own_RC HO5.out).bytes.cells.upd hu (fun _ ad e hk => by have := hlt5 ad e; have := H.out.lt; omega)).bytes, hlt5, HRF.out.turn hu ?_ (by have := HLN.out; dsimp only; omega) H.out.z, HX5.out.trans hu (fun _ _ h => h)⟩
      rw [setCell_at HRF.out.at_, ← EA.out]
      rfl
  · skip
    go_enter Try.func78, Try.ntmps78
    go_wp2_with fail
    go_region
    go_upto_region 6 with fail
    obtain ⟨W2, hW2⟩ : ∃ W2, W2 = w.drew := ⟨_, rfl⟩
    rw [← hW2]
    have hb2 : Below w.heap.size w W2 := by rw [hW2]; exact (Below.refl _ _).drew
    have hs2 : W2.heap.size = w.heap.size := by rw [hW2]; rfl
    have H2 := Lib.hid (H.out.below hb2)
    have HB2 := Lib.hid hb2
    have HS2 := Lib.hid hs2
    have E0 := Lib.hid (show (W2.alloc (.cells #[] 5)).ownsRow W2.heap.size 5 1 (.slice (some ⟨W2.heap.size, 0, none⟩) 0 0) 0 [] from
      ⟨rfl, .inr ⟨_, 0, #[], rfl, Nat.le_refl _, heap_alloc_new W2 _, Nat.le_refl _, by simp [maxLen], rfl, rfl⟩⟩)
    have k0 := H2.out.c0
    have k1 : W2.cell? ⟨p, 1, none⟩ = some (.int .i64 (a : Int)) := by have := H2.out.c1; rwa [← EA.out] at this
    have c0a : ∀ ob, (W2.alloc ob).cell? ⟨p, 0, none⟩ = some (.slice (some ⟨b, o, none⟩) l.length (c)) := fun ob => Lib.cell?_alloc_some ob k0
    have c0b : ∀ ob, (W2.drew.alloc ob).cell? ⟨p, 0, none⟩ = some (.slice (some ⟨b, o, none⟩) l.length (c)) := fun ob => Lib.cell?_alloc_some ob k0
    have c1a : ∀ ob, (W2.alloc ob).cell? ⟨p, 1, none⟩ = some (.int .i64 (a : Int)) := fun ob => Lib.cell?_alloc_some ob k1
    have c1b : ∀ ob, (W2.drew.alloc ob).cell? ⟨p, 1, none⟩ = some (.int .i64 (a : Int)) := fun ob => Lib.cell?_alloc_some ob k1
    have hpl2 : p < W2.heap.size := H2.out.lt
    clear hW2 hb2 hs2
    go_region_law (refine step_append_any rfl (.tmp 29) (.tmp 44) 37 rfl W2.heap.size 5 _ 1 1 Try.underlying37 info8 rfl (by omega) (by omega) (.slice (some ⟨W2.heap.size, 0, none⟩) 0 0) 0 [] (by simp [Act.eval, Act.put]) E0.out (some ⟨b, o + a, none⟩) (n) (c - a) (bv x) (by simp [Act.eval, Act.put]; try omega) (by rw [bv_length, HX.out]; try omega) ((HRX.out _ _ (below_below HB2.out HB2.out.size (((Below.refl _ _).alloc (Nat.le_refl _) _).drew)) (.inr rfl)).cells) (bv_one _) (by omega) (by show W2.heap.size ≤ (W2.alloc _).heap.size; simp) ?_; intro v5 w5 ho5 hg5 hv5; obtain ⟨A5, c5, rfl, _⟩ := own_slice ho5)
    all_goals
      have hx5 : Upd (fun _ => False) W2 w5 := ((Upd.refl (fun _ => False) W2).alloc (.cells #[] 5)).drew.grown hg5 (fun k hk hlt => absurd hlt (by have := Option.some.inj (show some W2.heap.size = some k from hk); omega))
      have ho5' : w5.ownsRow W2.heap.size 5 1 (.slice A5 (n) c5) (n) (bv x) := by simpa using ho5
      have hrf5 := H2.out.upd hx5 id (fun _ _ _ => id)
      have j1 : w5.cell? ⟨p, 1, none⟩ = some (.int .i64 (a : Int)) := by have := hrf5.c1; rwa [← EA.out] at this
      have f5 := hrf5.f0 1
      have HO5 := Lib.hid ho5'
      have HRF := Lib.hid hrf5
      have HX5 := Lib.hid ((Upd.of_below (F := fun k => k = p) HB2.out).trans hx5 (fun _ _ h => h.elim))
      clear ho5 hg5 hv5 hx5 ho5' hrf5 c0a c0b c1a c1b k0 k1
      go_wp2_with fail
      go_ret
      have hu : Upd (fun k => k = p) w5 (w5.setCell ⟨p, 1, none⟩ (.int .i64 ((a : Int) + (n : Int)))) := (Upd.refl (fun k => k = p) w5).setCell (p := ⟨p, 1, none⟩) (fun _ => rfl) _
      have hlt5 : ∀ ad, A5 = some ad → w.heap.size ≤ ad.block := by
        intro ad e
        subst e
        have := (HO5.out.lt ad.block rfl).1
        have := HS2.out
        omega
      refine ⟨A5, c5, rfl, ((own_RC HO5.out).bytes.cells.upd hu (fun _ ad e hk => by have := hlt5 ad e; have := H.out.lt; omega)).bytes, hlt5, HRF.out.turn hu ?_ (by have := HLN.out; dsimp only; omega) H.out.z, HX5.out.trans hu (fun _ _ h => h)⟩
      rw [setCell_at HRF.out.at_, ← EA.out]
      rfl

end Go.Proofs.Ythlbmjjodjepjaa
