/-
  The walks of package disk: contracts of its functions over one predicate, DiskAt.
-/
import Derived.Test.YthlbmjjodjepjaaMem
import Derived.BigRegion
set_option linter.unusedVariables false
set_option linter.unusedSimpArgs false
namespace Go.Proofs.Ythlbmjjodjepjaa
open Go.RowKit

set_option maxHeartbeats 1000000 in
/-- slices.Clone of bytes: a row of its own that reads the same. -/
theorem clone8_any (A : Option Addr) (n c : Nat) (l : List UInt8) (w : World) (hl : l.length = n) (hn : n ≤ 140737488355328) (hr : RB w A l) (hnil : A = none → c = 0) :
    Calls Try.prog 66 #[.slice A n c] w fun e w' => ∃ v, e = .returned v ∧ w'.ownsRow w.heap.size 5 1 v l.length (bv l) ∧ Below w.heap.size w w' := by
  subst hl
  rcases A with _ | ad
  · have h0 : l = [] := by
      rcases l with _ | ⟨x, l⟩
      · rfl
      · obtain ⟨ad, h, _⟩ := hr (by simp)
        cases h
    subst h0
    obtain rfl := hnil rfl
    clear hr hnil
    have he := fun w => Lib.run_eql_slice_nil (P := Try.prog) w 37 5 none 0 0 0 0 Try.underlying37
    go_enter Try.func66, Try.ntmps66
    go_wp2
    go_ret
    exact ⟨_, rfl, World.ownsRow_nil _ _ _ _, Below.refl _ _⟩
  · clear hnil
    have HR := Lib.hid hr
    clear hr
    have he := fun w => Lib.run_eql_slice_nil (P := Try.prog) w 37 5 (some ad) l.length c 0 0 Try.underlying37
    go_enter Try.func66, Try.ntmps66
    go_wp2_with (at_builtin; refine append_bytes rfl _ _ 37 rfl w.heap.size 5 Try.underlying37 info8 _ [] rfl (World.ownsRow_lit w #[] 0 (Nat.le_refl _) (by simp [maxLen]) rfl) _ _ _ l rfl rfl (HR.out.below ((Below.refl _ _).alloc (Nat.le_refl _) _)) ?c1 ?c2 ?_)
    case c1 => simp; omega
    case c2 => simp
    intro v w1 ho hg hat
    have HO := Lib.hid ho
    have HG := Lib.hid hg
    clear ho hg hat
    go_wp2
    go_ret
    exact ⟨_, rfl, by simpa using HO.out, ((Below.refl _ _).alloc (Nat.le_refl _) _).grown HG.out (by simp) (fun k hk => by simp [Value.ownBlock] at hk; omega)⟩

theorem un8_add (x : UInt8) (k : Int) : ∃ y : UInt8, (un8 x + k) % 256 = un8 y := by
  refine ⟨UInt8.ofNat ((un8 x + k) % 256).toNat, ?_⟩
  unfold un8
  simp
  omega
/-- A store of a byte into a row of one's own. -/
theorem own_store {w : World} {B n g c : Nat} {l : List UInt8} {e : TypeId} (h : w.ownsRow B e 1 (.slice (some ⟨g, 0, none⟩) n c) n (bv l)) (k : Nat) (y : UInt8) :
    (w.setCell ⟨g, k, none⟩ (.int .u8 (un8 y))).ownsRow B e 1 (.slice (some ⟨g, 0, none⟩) n c) n (bv (l.set k y)) := by
  have hst := (h.stored k (.int .u8 (un8 y))).1
  rwa [show (bv l).set k (.int .u8 (un8 y)) = bv (l.set k y) by simp [bv, List.map_set, B8]] at hst

/-- A disk at block p: its bytes (the row v, from block B on) and how many are safe. -/
structure DiskAt (w : World) (B p : Nat) (v : Value) (b : List UInt8) (safe : Nat) : Prop where
  at_ : w.heap[p]? = some (.cells #[v, .int .i64 (safe : Int)] 94 (0, 0))
  own : w.ownsRow B 5 1 v b.length (bv b)
  ne : v.ownBlock ≠ some p
  le : safe ≤ b.length
  small : b.length ≤ 4194304
  base : B ≤ p

namespace DiskAt
variable {w w' : World} {B p : Nat} {v : Value} {b : List UInt8} {safe : Nat}
theorem lt (h : DiskAt w B p v b safe) : p < w.heap.size := (Array.getElem?_eq_some_iff.1 h.at_).1
theorem c0 (h : DiskAt w B p v b safe) : w.cell? ⟨p, 0, none⟩ = some v := by rw [cell_of_row w p 0 _ _ _ h.at_]; rfl
theorem c1 (h : DiskAt w B p v b safe) : w.cell? ⟨p, 1, none⟩ = some (.int .i64 (safe : Int)) := by rw [cell_of_row w p 1 _ _ _ h.at_]; rfl
theorem f0 (h : DiskAt w B p v b safe) (j : Nat) : w.frozen? ⟨p, j, none⟩ = false := frozen_of_row w p j _ _ h.at_
theorem upd {F : Nat → Prop} (h : DiskAt w B p v b safe) (u : Upd F w w') (hp : ¬ F p) (hv : ∀ k, v.ownBlock = some k → ¬ F k) : DiskAt w' B p v b safe :=
  ⟨(u.block p h.lt hp).trans h.at_, own_upd h.own u hv, h.ne, h.le, h.small, h.base⟩
theorem below (h : DiskAt w B p v b safe) (hb : Below w.heap.size w w') : DiskAt w' B p v b safe := h.upd (Upd.of_below (F := fun _ => False) hb) id (fun _ _ => id)
theorem drew (h : DiskAt w B p v b safe) : DiskAt w.drew B p v b safe := ⟨h.at_, h.own, h.ne, h.le, h.small, h.base⟩
/-- The blocks that a disk's calls may turn. -/
def foot (p : Nat) (v : Value) (k : Nat) : Prop := k = p ∨ v.ownBlock = some k
theorem foot_base (h : DiskAt w B p v b safe) : ∀ k, foot p v k → B ≤ k := by
  rintro k (rfl | hk)
  · exact h.base
  · exact (h.own.lt k hk).1
theorem foot_lt (h : DiskAt w B p v b safe) : ∀ k, foot p v k → k < w.heap.size := by
  rintro k (rfl | hk)
  · exact h.lt
  · exact (h.own.lt k hk).2
theorem goes {w0 : World} (h : DiskAt w B p v b safe) (hb : Below B w0 w) (u : Upd (foot p v) w w') : Below B w0 w' :=
  below_upd hb (by have := h.lt; have := h.base; omega) u h.foot_base
end DiskAt

/-- What a call that turns the disk leaves. -/
def DiskOut (w : World) (B p : Nat) (v : Value) (b : List UInt8) (safe : Nat) (ret : Value) (e : Ending) (w' : World) : Prop :=
  ∃ v', e = .returned ret ∧ DiskAt w' B p v' b safe ∧ Upd (DiskAt.foot p v) w w' ∧ (v'.ownBlock = v.ownBlock ∨ v'.ownBlock = some w.heap.size)

theorem setCell_at {w : World} {p j : Nat} {cs : Array Value} {t : TypeId} {fr : Nat × Nat} (h : w.heap[p]? = some (.cells cs t fr)) (u : Value) : (w.setCell ⟨p, j, none⟩ u).heap[p]? = some (.cells (cs.setIfInBounds j u) t fr) := by
  simp [World.setCell, Array.getElem?_modify, h]
theorem own_setCell {w : World} {p j : Nat} {base n : Nat} {e : TypeId} {size : Nat} {v : Value} {xs : List Value} (h : w.ownsRow base e size v n xs) (hne : v.ownBlock ≠ some p) (u : Value) : (w.setCell ⟨p, j, none⟩ u).ownsRow base e size v n xs :=
  own_upd h ((Upd.refl (fun k => k = p) w).setCell (fun _ => rfl) u) (fun k hk e => hne (by rw [hk, e]))

theorem own_cut {w : World} {p j i B n : Nat} {e : TypeId} {A : Option Addr} {c : Nat} {b : List UInt8} (h : w.ownsRow B e 1 (.slice A b.length c) b.length (bv b)) (hne : (Value.slice A b.length c).ownBlock ≠ some p) (hn : n ≤ b.length) (u u' : Value) :
    ((w.setCell ⟨p, i, none⟩ u).setCell ⟨p, j, none⟩ u').ownsRow B e 1 (.slice A n c) (b.take n).length (bv (b.take n)) := by
  have h1 := own_take h n hn
  have hne' : (Value.slice A n c).ownBlock ≠ some p := by cases A <;> exact hne
  have h2 := own_setCell (own_setCell h1 hne' u (j := i)) hne' u' (j := j)
  have e1 : (b.take n).length = n := by rw [List.length_take]; omega
  have e2 : bv (b.take n) = (bv b).take (n * 1) := by simp [bv]
  rw [e1, e2]
  exact h2

set_option maxHeartbeats 400000 in
theorem diskNew_any (w : World) : Calls Try.prog 33 #[] w fun e w' =>
    e = .returned (.pointer (some ⟨w.heap.size, 0, none⟩)) ∧ DiskAt w' w.heap.size w.heap.size (.slice none 0 0) [] 0 ∧ Below w.heap.size w w' := by
  go_enter Try.func33, Try.ntmps33
  go_wp2
  go_ret
  exact ⟨rfl, ⟨heap_alloc_new w _, World.ownsRow_nil _ _ _ _, by simp [Value.ownBlock], Nat.le_refl _, by simp, Nat.le_refl _⟩, (Below.refl _ _).alloc (Nat.le_refl _) _⟩

set_option maxHeartbeats 400000 in
theorem diskSafe_any (w : World) (B p : Nat) (v : Value) (b : List UInt8) (safe : Nat) (h : DiskAt w B p v b safe) :
    Calls Try.prog 43 #[.pointer (some ⟨p, 0, none⟩)] w fun e w' => e = .returned (.int .i64 (safe : Int)) ∧ w = w' := by
  have h1 := h.c1
  clear h
  go_enter Try.func43, Try.ntmps43
  go_wp2
  go_ret
  exact ⟨rfl, rfl⟩

set_option maxHeartbeats 400000 in
theorem diskSync_any (w : World) (B p : Nat) (v : Value) (b : List UInt8) (safe : Nat) (h : DiskAt w B p v b safe) :
    Calls Try.prog 64 #[.pointer (some ⟨p, 0, none⟩)] w (DiskOut w B p v b b.length (.tuple #[])) := by
  obtain ⟨A, c, rfl, _⟩ := own_slice h.own
  have h0 := h.c0
  have h1 := h.c1
  have hf := h.f0 1
  have H := Lib.hid h
  clear h
  go_enter Try.func64, Try.ntmps64
  go_wp2
  go_end0
  refine ⟨_, rfl, ⟨?_, own_setCell H.out.own H.out.ne _, H.out.ne, Nat.le_refl _, H.out.small, H.out.base⟩, (Upd.refl _ _).setCell (fun _ => .inl rfl) _, .inl rfl⟩
  rw [setCell_at H.out.at_]
  rfl

set_option maxHeartbeats 1000000 in
theorem diskBytes_any (w : World) (B p : Nat) (v : Value) (b : List UInt8) (safe : Nat) (h : DiskAt w B p v b safe) :
    Calls Try.prog 42 #[.pointer (some ⟨p, 0, none⟩)] w fun e w' => ∃ x, e = .returned x ∧ w'.ownsRow w.heap.size 5 1 x b.length (bv b) ∧ Below w.heap.size w w' := by
  have hnil : ∀ A c, v = .slice A b.length c → A = none → c = 0 := by
    intro A c e1 e2
    subst e1
    subst e2
    rcases h.own.2 with ⟨h', _⟩ | ⟨g, cap, cur, h', _⟩
    · simp at h'; exact h'.2
    · simp at h'
  obtain ⟨A, c, rfl, _⟩ := own_slice h.own
  have hn := hnil A c rfl
  have h0 := h.c0
  have H := Lib.hid h
  have HN := Lib.hid hn
  clear h hn hnil
  go_enter Try.func42, Try.ntmps42
  go_wp2_with fail
  refine (clone8_any A _ c b _ rfl (by have := H.out.small; omega) (own_RC H.out.own).bytes HN.out).mono ?_
  rintro e w1 ⟨x, rfl, ho, hb⟩
  have HO := Lib.hid ho
  have HB := Lib.hid hb
  clear ho hb
  go_wp2_with fail
  go_ret
  exact ⟨_, rfl, HO.out, HB.out⟩

set_option maxHeartbeats 1000000 in
/-- Append where there is no room. -/
theorem diskAppend_full (w : World) (B p : Nat) (v : Value) (b : List UInt8) (safe : Nat) (h : DiskAt w B p v b safe) (A : Option Addr) (n c : Nat) (hn : n ≤ 140737488355328) (hf : 4194304 < b.length + n) :
    Calls Try.prog 41 #[.pointer (some ⟨p, 0, none⟩), .slice A n c] w fun e w' => e = .returned (.int .i64 13) ∧ w = w' := by
  obtain ⟨A0, c0, rfl, _⟩ := own_slice h.own
  have h0 := h.c0
  have hs := h.small
  clear h
  go_enter Try.func41, Try.ntmps41
  go_wp2
  go_ret
  exact ⟨rfl, rfl⟩

set_option maxHeartbeats 1000000 in
/-- Append where there is room. -/
theorem diskAppend_any (w : World) (B p : Nat) (v : Value) (b : List UInt8) (safe : Nat) (h : DiskAt w B p v b safe) (A : Option Addr) (n c : Nat) (x : List UInt8) (hx : x.length = n) (hr : RB w A x) (hf : b.length + x.length ≤ 4194304) :
    Calls Try.prog 41 #[.pointer (some ⟨p, 0, none⟩), .slice A n c] w (DiskOut w B p v (b ++ x) safe (.int .i64 0)) := by
  subst hx
  obtain ⟨A0, c0, rfl, _⟩ := own_slice h.own
  have h0 := h.c0
  have hlt := h.lt
  have H := Lib.hid h
  have HR := Lib.hid hr
  clear h hr
  go_enter Try.func41, Try.ntmps41
  go_wp2_with (at_builtin; refine append_bytes rfl _ _ 37 rfl B 5 Try.underlying37 info8 _ b rfl H.out.own _ _ _ x rfl rfl HR.out ?c1 ?c2 ?_)
  case c1 => omega
  case c2 => have := H.out.base; omega
  intro v1 w1 ho hg hat
  have hw1 : w1.heap[p]? = some (.cells #[.slice A0 b.length c0, .int .i64 (safe : Int)] 94 (0, 0)) := (hg.block p hlt (fun e => H.out.ne e.symm)).trans H.out.at_
  have k0 : w1.cell? ⟨p, 0, none⟩ = some (.slice A0 b.length c0) := by rw [cell_of_row w1 p 0 _ _ _ hw1]; rfl
  have kf : w1.frozen? ⟨p, 0, none⟩ = false := frozen_of_row w1 p 0 _ _ hw1
  have HO := Lib.hid ho
  have HG := Lib.hid hg
  have HA := Lib.hid hat
  have HW := Lib.hid hw1
  clear ho hg hat hw1
  obtain ⟨A1, c1, rfl, _⟩ := own_slice HO.out
  go_wp2
  go_ret
  have hne : (Value.slice A1 (b.length + x.length) c1).ownBlock ≠ some p := by
    intro e
    rcases HA.out with h | h
    · exact H.out.ne (h ▸ e)
    · rw [h] at e; cases e; exact absurd hlt (Nat.lt_irrefl _)
  refine ⟨_, rfl, ⟨?_, by rw [List.length_append]; exact own_setCell HO.out hne _, hne, by have := H.out.le; simp; omega, by simpa using hf, H.out.base⟩, ?_, HA.out⟩
  · rw [setCell_at HW.out]; rfl
  · exact ((Upd.refl _ _).grown HG.out (fun k hk _ => .inr hk)).setCell (fun _ => .inl rfl) _

set_option maxHeartbeats 1000000 in
/-- Cut at a number that is none of its lengths. -/
theorem diskCut_no (w : World) (B p : Nat) (v : Value) (b : List UInt8) (safe : Nat) (h : DiskAt w B p v b safe) (n : Int) (hn : n < 0 ∨ (b.length : Int) < n) :
    Calls Try.prog 62 #[.pointer (some ⟨p, 0, none⟩), .int .i64 n] w fun e w' => e = .returned (.int .i64 1) ∧ w = w' := by
  obtain ⟨A0, c0, rfl, _⟩ := own_slice h.own
  have h0 := h.c0
  have hs := h.small
  clear h
  by_cases hneg : n < 0
  · clear hn
    go_enter Try.func62, Try.ntmps62
    go_wp2
    go_ret
    exact ⟨rfl, rfl⟩
  · have hn2 : (b.length : Int) < n := by omega
    have hneg' : decide (n < 0) = false := by simpa using hneg
    clear hn
    go_enter Try.func62, Try.ntmps62
    go_wp2
    go_ret
    exact ⟨rfl, rfl⟩

set_option maxHeartbeats 1000000 in
theorem diskCut_any (w : World) (B p : Nat) (v : Value) (b : List UInt8) (safe : Nat) (h : DiskAt w B p v b safe) (n : Nat) (hn : n ≤ b.length) :
    Calls Try.prog 62 #[.pointer (some ⟨p, 0, none⟩), .int .i64 (n : Int)] w (DiskOut w B p v (b.take n) (min safe n) (.int .i64 0)) := by
  obtain ⟨A0, c0, rfl, hc⟩ := own_slice h.own
  have h0 := h.c0
  have h1 := h.c1
  have hf0 := h.f0 0
  have hf1 := h.f0 1
  have hs := h.small
  have hlt := h.lt
  have H := Lib.hid h
  clear h
  by_cases hm : safe ≤ n
  · have HM := Lib.hid (show min safe n = safe by omega)
    go_enter Try.func62, Try.ntmps62
    go_wp2
    go_ret
    refine ⟨.slice A0 n c0, rfl, ⟨?_, own_cut H.out.own H.out.ne hn _ _, (by have := H.out.ne; cases A0 <;> exact this), by rw [HM.out, List.length_take]; omega, by rw [List.length_take]; omega, H.out.base⟩, ?_, .inl (by cases A0 <;> rfl)⟩
    · rw [setCell_at (setCell_at H.out.at_ _), HM.out]; rfl
    · exact ((Upd.refl _ _).setCell (fun _ => .inl rfl) _).setCell (fun _ => .inl rfl) _
  · have HM := Lib.hid (show min safe n = n by omega)
    go_enter Try.func62, Try.ntmps62
    go_wp2
    go_ret
    refine ⟨.slice A0 n c0, rfl, ⟨?_, own_cut H.out.own H.out.ne hn _ _, (by have := H.out.ne; cases A0 <;> exact this), by rw [HM.out, List.length_take]; omega, by rw [List.length_take]; omega, H.out.base⟩, ?_, .inl (by cases A0 <;> rfl)⟩
    · rw [setCell_at (setCell_at H.out.at_ _), HM.out]; rfl
    · exact ((Upd.refl _ _).setCell (fun _ => .inl rfl) _).setCell (fun _ => .inl rfl) _

/-- What a crash leaves. -/
def crashLen (b : List UInt8) (safe : Nat) (keep : Int) : Nat := safe + min keep.toNat (b.length - safe)
theorem crashLen_le (b : List UInt8) (safe : Nat) (keep : Int) (h : safe ≤ b.length) : crashLen b safe keep ≤ b.length := by unfold crashLen; omega

set_option maxHeartbeats 4000000 in
theorem diskCrash_any (w : World) (B p : Nat) (v : Value) (b : List UInt8) (safe : Nat) (h : DiskAt w B p v b safe) (keep : Int) (k0 : -9223372036854775808 ≤ keep) (k1 : keep ≤ 9223372036854775807) :
    Calls Try.prog 39 #[.pointer (some ⟨p, 0, none⟩), .int .i64 keep] w (DiskOut w B p v (b.take (crashLen b safe keep)) (crashLen b safe keep) (.tuple #[])) := by
  obtain ⟨A0, c0, rfl, hc⟩ := own_slice h.own
  have h0 := h.c0
  have h1 := h.c1
  have hf0 := h.f0 0
  have hf1 := h.f0 1
  have hs := h.small
  have hle := h.le
  have hlt := h.lt
  have H := Lib.hid h
  clear h
  have fin : ∀ (n : Nat), n = crashLen b safe keep → DiskOut w B p (.slice A0 b.length c0) (b.take (crashLen b safe keep)) (crashLen b safe keep) (.tuple #[]) (.returned (.tuple #[]))
      (((w.setCell ⟨p, 0, none⟩ (.slice A0 n c0)).setCell ⟨p, 1, none⟩ (.int .i64 (n : Int))).drew) := by
    intro n hn
    have hn' := crashLen_le b safe keep hle
    subst hn
    refine ⟨.slice A0 (crashLen b safe keep) c0, rfl, ⟨?_, own_cut H.out.own H.out.ne hn' _ _, (by have := H.out.ne; cases A0 <;> exact this), by rw [List.length_take]; omega, by rw [List.length_take]; omega, H.out.base⟩, ?_, .inl (by cases A0 <;> rfl)⟩
    · exact (setCell_at (setCell_at H.out.at_ _) _).trans rfl
    · exact (((Upd.refl _ _).setCell (fun _ => .inl rfl) _).setCell (fun _ => .inl rfl) _).drew
  have FIN := Lib.hid fin
  clear fin
  by_cases ha : keep < 0
  · have HC := Lib.hid (show safe = crashLen b safe keep by unfold crashLen; omega)
    go_enter Try.func39, Try.ntmps39
    go_wp2
    go_region
    go_wp2
    go_end0
    exact FIN.out _ HC.out
  · obtain ⟨k, rfl⟩ := Int.eq_ofNat_of_zero_le (show 0 ≤ keep by omega)
    by_cases hk : k ≤ b.length - safe
    · have HC := Lib.hid (show safe + k = crashLen b safe k by unfold crashLen; omega)
      go_enter Try.func39, Try.ntmps39
      go_wp2
      go_region
      go_wp2
      go_end0
      exact FIN.out _ HC.out
    · have HC := Lib.hid (show b.length = crashLen b safe k by unfold crashLen; omega)
      go_enter Try.func39, Try.ntmps39
      go_wp2
      go_region
      go_wp2
      go_end0
      exact FIN.out _ HC.out

end Go.Proofs.Ythlbmjjodjepjaa
