/-
  The walks of the reference's disk: contracts over one predicate, RDiskAt.
-/
import Derived.Test.YtiefgnmekikckaaDisk
set_option linter.unusedVariables false
set_option linter.unusedSimpArgs false
namespace Go.Proofs.Ytiefgnmekikckaa
open Go.RowKit

/-- The reference's disk at block p: its bytes (the row v, from block B on) and how many are safe. -/
structure RDiskAt (w : World) (B p : Nat) (v : Value) (b : List UInt8) (safe : Nat) : Prop where
  at_ : w.heap[p]? = some (.cells #[v, .int .i64 (safe : Int)] 45 (0, 0))
  own : w.ownsRow B 5 1 v b.length (bv b)
  ne : v.ownBlock ≠ some p
  le : safe ≤ b.length
  small : b.length ≤ 4194304
  base : B ≤ p

namespace RDiskAt
variable {w w' : World} {B p : Nat} {v : Value} {b : List UInt8} {safe : Nat}
theorem lt (h : RDiskAt w B p v b safe) : p < w.heap.size := (Array.getElem?_eq_some_iff.1 h.at_).1
theorem c0 (h : RDiskAt w B p v b safe) : w.cell? ⟨p, 0, none⟩ = some v := by rw [cell_of_row w p 0 _ _ _ h.at_]; rfl
theorem c1 (h : RDiskAt w B p v b safe) : w.cell? ⟨p, 1, none⟩ = some (.int .i64 (safe : Int)) := by rw [cell_of_row w p 1 _ _ _ h.at_]; rfl
theorem f0 (h : RDiskAt w B p v b safe) (j : Nat) : w.frozen? ⟨p, j, none⟩ = false := frozen_of_row w p j _ _ h.at_
theorem upd {F : Nat → Prop} (h : RDiskAt w B p v b safe) (u : Upd F w w') (hp : ¬ F p) (hv : ∀ k, v.ownBlock = some k → ¬ F k) : RDiskAt w' B p v b safe :=
  ⟨(u.block p h.lt hp).trans h.at_, own_upd h.own u hv, h.ne, h.le, h.small, h.base⟩
theorem below (h : RDiskAt w B p v b safe) (hb : Below w.heap.size w w') : RDiskAt w' B p v b safe := h.upd (Upd.of_below (F := fun _ => False) hb) id (fun _ _ => id)
theorem drew (h : RDiskAt w B p v b safe) : RDiskAt w.drew B p v b safe := ⟨h.at_, h.own, h.ne, h.le, h.small, h.base⟩
end RDiskAt

/-- What a call that turns the reference's disk leaves. -/
def RDiskOut (w : World) (B p : Nat) (v : Value) (b : List UInt8) (safe : Nat) (ret : Value) (e : Ending) (w' : World) : Prop :=
  ∃ v', e = .returned ret ∧ RDiskAt w' B p v' b safe ∧ Upd (fun k => k = p) w w' ∧ (∀ k, v'.ownBlock = some k → v.ownBlock = some k ∨ w.heap.size ≤ k)

set_option maxHeartbeats 1000000 in
/-- Append where there is no room. -/
theorem refAppend_full (w : World) (B p : Nat) (v : Value) (b : List UInt8) (safe : Nat) (h : RDiskAt w B p v b safe) (A : Option Addr) (n c : Nat) (hn : n ≤ 140737488355328) (hf : 4194304 < b.length + n) :
    Calls Try.prog 29 #[.pointer (some ⟨p, 0, none⟩), .slice A n c] w fun e w' => e = .returned (.int .i64 13) ∧ w = w' := by
  obtain ⟨A0, c0, rfl, _⟩ := own_slice h.own
  have h0 := h.c0
  have hs := h.small
  clear h
  go_enter Try.func29, Try.ntmps29
  go_wp2
  go_ret
  exact ⟨rfl, rfl⟩

set_option maxHeartbeats 1000000 in
/-- Append where there is room. -/
theorem refAppend_any (w : World) (B p : Nat) (v : Value) (b : List UInt8) (safe : Nat) (h : RDiskAt w B p v b safe) (A : Option Addr) (n c : Nat) (x : List UInt8) (hx : x.length = n) (hr : RB w A x) (hf : b.length + x.length ≤ 4194304) :
    Calls Try.prog 29 #[.pointer (some ⟨p, 0, none⟩), .slice A n c] w (RDiskOut w B p v (b ++ x) safe (.int .i64 0)) := by
  subst hx
  obtain ⟨A0, c0, rfl, _⟩ := own_slice h.own
  have h0 := h.c0
  have hlt := h.lt
  have H := Lib.hid h
  have HR := Lib.hid hr
  clear h hr
  go_enter Try.func29, Try.ntmps29
  go_wp2_with (at_builtin; refine append_bytes rfl _ _ 22 rfl w.heap.size 5 Try.underlying22 info8 _ [] rfl (World.ownsRow_lit w #[] 0 (Nat.le_refl _) (by simp [maxLen]) rfl) _ _ _ b rfl rfl ((own_RC H.out.own).bytes.below ((Below.refl _ _).alloc (Nat.le_refl _) _)) ?c1 ?c2 ?_)
  case c1 => simp; omega
  case c2 => simp
  intro v1 w1 ho hg hat
  have ho' : w1.ownsRow w.heap.size 5 1 v1 b.length (bv b) := by simpa using ho
  have HO := Lib.hid ho'
  have hb1 : Below w.heap.size w w1 := ((Below.refl _ _).alloc (Nat.le_refl _) _).grown hg (by simp) (fun k hk => by simp [Value.ownBlock] at hk; omega)
  have HB := Lib.hid hb1
  clear hb1 ho ho' hg hat
  go_wp2_with (at_builtin; refine append_bytes rfl _ _ 22 rfl w.heap.size 5 Try.underlying22 info8 _ b rfl HO.out _ _ _ x rfl rfl (HR.out.below HB.out) ?c1 ?c2 ?_)
  case c1 => omega
  case c2 => exact HB.out.size
  intro v2 w2 ho2 hg2 hat2
  have hb2 : Below w.heap.size w w2 := HB.out.grown hg2 HB.out.size (fun k hk => (World.ownsRow.lt HO.out k hk).1)
  have hw2 : w2.heap[p]? = some (.cells #[.slice A0 b.length c0, .int .i64 (safe : Int)] 45 (0, 0)) := (hb2.block p hlt).trans H.out.at_
  have k0 : w2.cell? ⟨p, 0, none⟩ = some (.slice A0 b.length c0) := by rw [cell_of_row w2 p 0 _ _ _ hw2]; rfl
  have kf : w2.frozen? ⟨p, 0, none⟩ = false := frozen_of_row w2 p 0 _ _ hw2
  have HO2 := Lib.hid ho2
  have HB2 := Lib.hid hb2
  have HW := Lib.hid hw2
  clear ho2 hg2 hat2 hb2 hw2 HO HB
  obtain ⟨A1, c1, rfl, _⟩ := own_slice HO2.out
  go_wp2
  go_ret
  have hge : ∀ k, (Value.slice A1 (b.length + x.length) c1).ownBlock = some k → w.heap.size ≤ k := fun k hk => (World.ownsRow.lt HO2.out k hk).1
  have hne : (Value.slice A1 (b.length + x.length) c1).ownBlock ≠ some p := fun e => by have := hge p e; omega
  refine ⟨_, rfl, ⟨?_, ?_, hne, by have := H.out.le; simp; omega, by simpa using hf, H.out.base⟩, ?_, fun k hk => .inr (hge k hk)⟩
  · rw [setCell_at HW.out]; rfl
  · have h1 := own_setCell (own_lower HO2.out (show B ≤ w.heap.size by have := H.out.base; omega)) hne (.slice A1 (b.length + x.length) c1) (j := 0)
    rw [List.length_append]
    exact h1
  · exact (Upd.of_below (F := fun k => k = p) HB2.out).setCell (fun _ => rfl) _

set_option maxHeartbeats 400000 in
theorem refSync_any (w : World) (B p : Nat) (v : Value) (b : List UInt8) (safe : Nat) (h : RDiskAt w B p v b safe) :
    Calls Try.prog 31 #[.pointer (some ⟨p, 0, none⟩)] w (RDiskOut w B p v b b.length (.tuple #[])) := by
  obtain ⟨A, c, rfl, _⟩ := own_slice h.own
  have h0 := h.c0
  have h1 := h.c1
  have hf := h.f0 1
  have H := Lib.hid h
  clear h
  go_enter Try.func31, Try.ntmps31
  go_wp2
  go_end0
  refine ⟨_, rfl, ⟨?_, own_setCell H.out.own H.out.ne _, H.out.ne, Nat.le_refl _, H.out.small, H.out.base⟩, (Upd.refl (fun k => k = p) w).setCell (fun _ => rfl) _, fun k hk => .inl hk⟩
  rw [setCell_at H.out.at_]
  rfl

set_option maxHeartbeats 1000000 in
/-- Cut at a number that is none of its lengths. -/
theorem refCut_no (w : World) (B p : Nat) (v : Value) (b : List UInt8) (safe : Nat) (h : RDiskAt w B p v b safe) (n : Int) (hn : n < 0 ∨ (b.length : Int) < n) :
    Calls Try.prog 32 #[.pointer (some ⟨p, 0, none⟩), .int .i64 n] w fun e w' => e = .returned (.int .i64 1) ∧ w = w' := by
  obtain ⟨A0, c0, rfl, _⟩ := own_slice h.own
  have h0 := h.c0
  have hs := h.small
  clear h
  by_cases hneg : n < 0
  · clear hn
    go_enter Try.func32, Try.ntmps32
    go_wp2
    go_ret
    exact ⟨rfl, rfl⟩
  · have hn2 : (b.length : Int) < n := by omega
    have hneg' : decide (n < 0) = false := by simpa using hneg
    clear hn
    go_enter Try.func32, Try.ntmps32
    go_wp2
    go_ret
    exact ⟨rfl, rfl⟩

/-- What is left where the bytes are copied anew: the first cell set, and the second one, or not. -/
theorem ref_new {w w2 : World} {B p : Nat} {u v2 : Value} {b y : List UInt8} {safe safe' : Nat} (h : RDiskAt w B p u b safe) (hb : Below w.heap.size w w2) (ho : w2.ownsRow w.heap.size 5 1 v2 y.length (bv y))
    (hle : safe' ≤ y.length) (hsm : y.length ≤ b.length) :
    RDiskAt ((w2.setCell ⟨p, 0, none⟩ v2).setCell ⟨p, 1, none⟩ (.int .i64 (safe' : Int))) B p v2 y safe' ∧ (safe = safe' → RDiskAt (w2.setCell ⟨p, 0, none⟩ v2) B p v2 y safe') := by
  have hge : ∀ k, v2.ownBlock = some k → w.heap.size ≤ k := fun k hk => (World.ownsRow.lt ho k hk).1
  have hlt := h.lt
  have hne : v2.ownBlock ≠ some p := fun e => by have := hge p e; omega
  have h1 := own_setCell (j := 0) (own_lower ho (show B ≤ w.heap.size by have := h.base; omega)) hne v2
  have h2 := setCell_at (j := 0) ((hb.block p h.lt).trans h.at_) v2
  refine ⟨⟨?_, own_setCell h1 hne _, hne, hle, Nat.le_trans hsm h.small, h.base⟩, fun e => ⟨?_, h1, hne, hle, Nat.le_trans hsm h.small, h.base⟩⟩
  · rw [setCell_at h2]; rfl
  · rw [h2, e]; rfl

set_option maxHeartbeats 1000000 in
theorem refCut_any (w : World) (B p : Nat) (v : Value) (b : List UInt8) (safe : Nat) (h : RDiskAt w B p v b safe) (n : Nat) (hn : n ≤ b.length) :
    Calls Try.prog 32 #[.pointer (some ⟨p, 0, none⟩), .int .i64 (n : Int)] w (RDiskOut w B p v (b.take n) (min safe n) (.int .i64 0)) := by
  obtain ⟨A0, c0, rfl, hc⟩ := own_slice h.own
  have h0 := h.c0
  have hs := h.small
  have hlt := h.lt
  have H := Lib.hid h
  clear h
  obtain ⟨y, ey⟩ : ∃ y, y = b.take n := ⟨_, rfl⟩
  rw [← ey]
  have hy : y.length = n := by rw [ey, List.length_take]; omega
  have EY := Lib.hid ey
  have HY := Lib.hid hy
  clear ey hy
  go_enter Try.func32, Try.ntmps32
  go_wp2_with (at_builtin; refine append_bytes rfl _ _ 22 rfl w.heap.size 5 Try.underlying22 info8 _ [] rfl (World.ownsRow_lit w #[] 0 (Nat.le_refl _) (by simp [maxLen]) rfl) A0 n c0 y rfl HY.out (by rw [EY.out]; exact RB_take ((own_RC H.out.own).bytes.below ((Below.refl _ _).alloc (Nat.le_refl _) _)) n) ?c1 ?c2 ?_)
  case c1 => simp; omega
  case c2 => simp
  intro v1 w1 ho hg hat
  have ho' : w1.ownsRow w.heap.size 5 1 v1 y.length (bv y) := by rw [HY.out]; simpa using ho
  have HO := Lib.hid ho'
  have hb1 : Below w.heap.size w w1 := ((Below.refl _ _).alloc (Nat.le_refl _) _).grown hg (by simp) (fun k hk => by simp [Value.ownBlock] at hk; omega)
  have HB := Lib.hid hb1
  have hw2 : w1.heap[p]? = some (.cells #[.slice A0 b.length c0, .int .i64 (safe : Int)] 45 (0, 0)) := (hb1.block p hlt).trans H.out.at_
  have k0 : w1.cell? ⟨p, 0, none⟩ = some (.slice A0 b.length c0) := by rw [cell_of_row w1 p 0 _ _ _ hw2]; rfl
  have k1 : w1.cell? ⟨p, 1, none⟩ = some (.int .i64 (safe : Int)) := by rw [cell_of_row w1 p 1 _ _ _ hw2]; rfl
  have kf : w1.frozen? ⟨p, 0, none⟩ = false := frozen_of_row w1 p 0 _ _ hw2
  have kf1 : w1.frozen? ⟨p, 1, none⟩ = false := frozen_of_row w1 p 1 _ _ hw2
  clear hb1 ho ho' hg hat hw2
  have hge : ∀ k, v1.ownBlock = some k → w.heap.size ≤ k := fun k hk => (World.ownsRow.lt HO.out k hk).1
  have HGE := Lib.hid hge
  clear hge
  obtain ⟨A1, c1, rfl, _⟩ := own_slice HO.out
  by_cases hm : (n : Int) < (safe : Int)
  · have HM := Lib.hid (show min safe n = n by omega)
    go_wp2
    go_ret
    rw [HM.out]
    exact ⟨_, rfl, (ref_new H.out HB.out HO.out (by have := HY.out; omega) (by have := HY.out; omega)).1, ((Upd.of_below (F := fun k => k = p) HB.out).setCell (fun _ => rfl) _).setCell (fun _ => rfl) _, fun k hk => .inr (HGE.out k hk)⟩
  · have HM := Lib.hid (show safe = min safe n by omega)
    go_wp2
    go_ret
    exact ⟨_, rfl, (ref_new H.out HB.out HO.out (by have := HY.out; omega) (by have := HY.out; omega)).2 HM.out, (Upd.of_below (F := fun k => k = p) HB.out).setCell (fun _ => rfl) _, fun k hk => .inr (HGE.out k hk)⟩

set_option maxHeartbeats 4000000 in
theorem refCrash_any (w : World) (B p : Nat) (v : Value) (b : List UInt8) (safe : Nat) (h : RDiskAt w B p v b safe) (keep : Int) (k8 : -9223372036854775808 ≤ keep) (k9 : keep ≤ 9223372036854775807) :
    Calls Try.prog 33 #[.pointer (some ⟨p, 0, none⟩), .int .i64 keep] w (RDiskOut w B p v (b.take (crashLen b safe keep)) (crashLen b safe keep) (.tuple #[])) := by
  obtain ⟨A0, c0, rfl, hc⟩ := own_slice h.own
  have h0 := h.c0
  have h1 := h.c1
  have hs := h.small
  have hle := h.le
  have hlt := h.lt
  have H := Lib.hid h
  clear h
  have hcl := crashLen_le b safe keep hle
  obtain ⟨m, em⟩ : ∃ m, m = crashLen b safe keep := ⟨_, rfl⟩
  obtain ⟨y, ey⟩ : ∃ y, y = b.take m := ⟨_, rfl⟩
  rw [← em] at hcl ⊢
  rw [← ey]
  have hy : y.length = m := by rw [ey, List.length_take]; omega
  by_cases ha : keep < 0
  · have e1 : safe = m := by rw [em]; unfold crashLen; omega
    subst e1
    clear em
    have hin2 : (safe : Int) ≤ (c0 : Int) := by omega
    have hin1 : (0 : Int) ≤ (safe : Int) := by omega
    have hw9 : IntKind.i64.wrap (safe : Int) = (safe : Int) := by rw [IntKind.wrap_i64]; omega
    have EY := Lib.hid ey
    have HY := Lib.hid hy
    clear ey hy
    go_enter Try.func33, Try.ntmps33
    go_upto_region 2 with fail
    go_region
    go_wp2_with fail
    have HRY : Hid (RC ((w.alloc (.cells #[] 5)).drew.drew) A0 (bv y)) := Lib.hid (by rw [EY.out]; exact (RB_take ((own_RC H.out.own).bytes.below ((Below.refl _ _).alloc (Nat.le_refl _) _)) _).cells)
    go_region_law (refine step_append_any rfl (.tmp 29) (.tmp 40) 22 rfl w.heap.size 5 (.int .u8 0) 1 1 Try.underlying22 info8 rfl (by omega) (by omega) (.slice (some ⟨w.heap.size, 0, none⟩) 0 0) 0 [] rfl (World.ownsRow_lit w #[] 0 (Nat.le_refl _) (by simp [maxLen]) rfl) A0 safe c0 (bv y) rfl (by rw [bv_length, HY.out, Nat.mul_one]) HRY.out (bv_one _) (by omega) (by simp) ?_; intro v1 w1 ho0 hg hat; have ho : w1.ownsRow w.heap.size 5 1 v1 safe (bv y) := (by simpa using ho0); obtain ⟨A1, c1, rfl, _⟩ := own_slice ho; have hb1 : Below w.heap.size w w1 := (Below.drew (Below.drew ((Below.refl w.heap.size w).alloc (Nat.le_refl _) _))).grown hg (by simp) (fun k hk => by simp [Value.ownBlock] at hk; omega); have hw2 : w1.heap[p]? = some (.cells #[.slice A0 b.length c0, .int .i64 (safe : Int)] 45 (0, 0)) := (hb1.block p hlt).trans H.out.at_; have k0 : w1.cell? ⟨p, 0, none⟩ = some (.slice A0 b.length c0) := (cell_of_row w1 p 0 _ _ _ hw2).trans rfl; have k1 : w1.cell? ⟨p, 1, none⟩ = some (.int .i64 (safe : Int)) := (cell_of_row w1 p 1 _ _ _ hw2).trans rfl; have kf : w1.frozen? ⟨p, 0, none⟩ = false := frozen_of_row w1 p 0 _ _ hw2; have kf1 : w1.frozen? ⟨p, 1, none⟩ = false := frozen_of_row w1 p 1 _ _ hw2)
    all_goals
      go_wp2
      go_end0
      have hy2 := HY.out
      have ho2 : w1.ownsRow w.heap.size 5 1 (.slice A1 safe c1) y.length (bv y) := by rw [hy2]; exact ho
      have hn := (ref_new (safe' := safe) H.out hb1 ho2 (by omega) (by omega)).1
      exact ⟨_, rfl, hn, ((Upd.of_below (F := fun k => k = p) hb1).setCell (fun _ => rfl) _).setCell (fun _ => rfl) _, fun k hk => .inr (World.ownsRow.lt ho k hk).1⟩
  · obtain ⟨k, rfl⟩ := Int.eq_ofNat_of_zero_le (show 0 ≤ keep by omega)
    by_cases hk : k ≤ b.length - safe
    · have e1 : m = safe + k := by rw [em]; unfold crashLen; omega
      subst e1
      clear em
      have hin1 : (0 : Int) ≤ (safe : Int) + (k : Int) := by omega
      have hin2 : (safe : Int) + (k : Int) ≤ (c0 : Int) := by omega
      have hin3 : ((safe : Int) + (k : Int)).toNat = safe + k := by omega
      have hw9 : IntKind.i64.wrap ((safe : Int) + (k : Int)) = (safe : Int) + (k : Int) := by rw [IntKind.wrap_i64]; omega
      have EY := Lib.hid ey
      have HY := Lib.hid hy
      clear ey hy
      go_enter Try.func33, Try.ntmps33
      go_upto_region 2 with fail
      go_region
      go_wp2_with fail
      have HRY : Hid (RC ((w.alloc (.cells #[] 5)).drew.drew) A0 (bv y)) := Lib.hid (by rw [EY.out]; exact (RB_take ((own_RC H.out.own).bytes.below ((Below.refl _ _).alloc (Nat.le_refl _) _)) _).cells)
      go_region_law (refine step_append_any rfl (.tmp 29) (.tmp 40) 22 rfl w.heap.size 5 (.int .u8 0) 1 1 Try.underlying22 info8 rfl (by omega) (by omega) (.slice (some ⟨w.heap.size, 0, none⟩) 0 0) 0 [] rfl (World.ownsRow_lit w #[] 0 (Nat.le_refl _) (by simp [maxLen]) rfl) A0 (safe + k) c0 (bv y) rfl (by rw [bv_length, HY.out, Nat.mul_one]) HRY.out (bv_one _) (by omega) (by simp) ?_; intro v1 w1 ho0 hg hat; have ho : w1.ownsRow w.heap.size 5 1 v1 (safe + k) (bv y) := (by simpa using ho0); obtain ⟨A1, c1, rfl, _⟩ := own_slice ho; have hb1 : Below w.heap.size w w1 := (Below.drew (Below.drew ((Below.refl w.heap.size w).alloc (Nat.le_refl _) _))).grown hg (by simp) (fun k hk => by simp [Value.ownBlock] at hk; omega); have hw2 : w1.heap[p]? = some (.cells #[.slice A0 b.length c0, .int .i64 (safe : Int)] 45 (0, 0)) := (hb1.block p hlt).trans H.out.at_; have k0 : w1.cell? ⟨p, 0, none⟩ = some (.slice A0 b.length c0) := (cell_of_row w1 p 0 _ _ _ hw2).trans rfl; have k1 : w1.cell? ⟨p, 1, none⟩ = some (.int .i64 (safe : Int)) := (cell_of_row w1 p 1 _ _ _ hw2).trans rfl; have kf : w1.frozen? ⟨p, 0, none⟩ = false := frozen_of_row w1 p 0 _ _ hw2; have kf1 : w1.frozen? ⟨p, 1, none⟩ = false := frozen_of_row w1 p 1 _ _ hw2)
      all_goals
        go_wp2
        go_end0
        have hy2 := HY.out
        have ho2 : w1.ownsRow w.heap.size 5 1 (.slice A1 (safe + k) c1) y.length (bv y) := by rw [hy2]; exact ho
        have hn := (ref_new (safe' := (safe + k)) H.out hb1 ho2 (by omega) (by omega)).1
        exact ⟨_, rfl, hn, ((Upd.of_below (F := fun k => k = p) hb1).setCell (fun _ => rfl) _).setCell (fun _ => rfl) _, fun k hk => .inr (World.ownsRow.lt ho k hk).1⟩
    · have e1 : m = b.length := by rw [em]; unfold crashLen; omega
      subst e1
      clear em
      have hin2 : (b.length : Int) ≤ (c0 : Int) := by omega
      have hin1 : (0 : Int) ≤ (b.length : Int) := by omega
      have hw9 : IntKind.i64.wrap ((safe : Int) + ((b.length : Int) - (safe : Int))) = (b.length : Int) := by rw [IntKind.wrap_i64]; omega
      have EY := Lib.hid ey
      have HY := Lib.hid hy
      clear ey hy
      go_enter Try.func33, Try.ntmps33
      go_upto_region 2 with fail
      go_region
      go_wp2_with fail
      go_region
      go_wp2_with fail
      have HRY : Hid (RC ((w.alloc (.cells #[] 5)).drew.drew.drew) A0 (bv y)) := Lib.hid (by rw [EY.out]; exact (RB_take ((own_RC H.out.own).bytes.below ((Below.refl _ _).alloc (Nat.le_refl _) _)) _).cells)
      go_region_law (refine step_append_any rfl (.tmp 29) (.tmp 40) 22 rfl w.heap.size 5 (.int .u8 0) 1 1 Try.underlying22 info8 rfl (by omega) (by omega) (.slice (some ⟨w.heap.size, 0, none⟩) 0 0) 0 [] rfl (World.ownsRow_lit w #[] 0 (Nat.le_refl _) (by simp [maxLen]) rfl) A0 b.length c0 (bv y) rfl (by rw [bv_length, HY.out, Nat.mul_one]) HRY.out (bv_one _) (by omega) (by simp) ?_; intro v1 w1 ho0 hg hat; have ho : w1.ownsRow w.heap.size 5 1 v1 b.length (bv y) := (by simpa using ho0); obtain ⟨A1, c1, rfl, _⟩ := own_slice ho; have hb1 : Below w.heap.size w w1 := (Below.drew (Below.drew (Below.drew ((Below.refl w.heap.size w).alloc (Nat.le_refl _) _)))).grown hg (by simp) (fun k hk => by simp [Value.ownBlock] at hk; omega); have hw2 : w1.heap[p]? = some (.cells #[.slice A0 b.length c0, .int .i64 (safe : Int)] 45 (0, 0)) := (hb1.block p hlt).trans H.out.at_; have k0 : w1.cell? ⟨p, 0, none⟩ = some (.slice A0 b.length c0) := (cell_of_row w1 p 0 _ _ _ hw2).trans rfl; have k1 : w1.cell? ⟨p, 1, none⟩ = some (.int .i64 (safe : Int)) := (cell_of_row w1 p 1 _ _ _ hw2).trans rfl; have kf : w1.frozen? ⟨p, 0, none⟩ = false := frozen_of_row w1 p 0 _ _ hw2; have kf1 : w1.frozen? ⟨p, 1, none⟩ = false := frozen_of_row w1 p 1 _ _ hw2)
      all_goals
        go_wp2
        go_end0
        have hy2 := HY.out
        have ho2 : w1.ownsRow w.heap.size 5 1 (.slice A1 b.length c1) y.length (bv y) := by rw [hy2]; exact ho
        have hn := (ref_new (safe' := b.length) H.out hb1 ho2 (by omega) (by omega)).1
        exact ⟨_, rfl, hn, ((Upd.of_below (F := fun k => k = p) hb1).setCell (fun _ => rfl) _).setCell (fun _ => rfl) _, fun k hk => .inr (World.ownsRow.lt ho k hk).1⟩

end Go.Proofs.Ytiefgnmekikckaa
