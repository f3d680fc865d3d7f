/-
  The texts ReadBad, RdG, DecG of this proof in one (what is used of them): what each proves is said at its head. No conditions beyond those that each theorem says.
-/
import Derived.Test.YtjakhemolecbnaaNC2

/-
  The walks of a reader, where something is refused; and of Decode there.
-/
section
set_option linter.unusedVariables false
set_option linter.unusedSimpArgs false
namespace Go.Proofs.Ytjakhemolecbnaa
open Go.RowKit

/-- A reader that has refused. -/
def BadAt (w : World) (p : Nat) (v : Value) (a : Nat) (why en : Int) : Prop := w.heap[p]? = some (.cells #[v, .int .i64 (a : Int), .int .i64 why, .int .i64 en] 127 (0, 0))
namespace BadAt
variable {w : World} {p a : Nat} {v : Value} {why en : Int}
theorem lt (h : BadAt w p v a why en) : p < w.heap.size := (Array.getElem?_eq_some_iff.1 h).1
theorem c0 (h : BadAt w p v a why en) : w.cell? ⟨p, 0, none⟩ = some v := by rw [cell_of_row w p 0 _ _ _ h]; rfl
theorem c1 (h : BadAt w p v a why en) : w.cell? ⟨p, 1, none⟩ = some (.int .i64 (a : Int)) := by rw [cell_of_row w p 1 _ _ _ h]; rfl
theorem c2 (h : BadAt w p v a why en) : w.cell? ⟨p, 2, none⟩ = some (.int .i64 why) := by rw [cell_of_row w p 2 _ _ _ h]; rfl
theorem c3 (h : BadAt w p v a why en) : w.cell? ⟨p, 3, none⟩ = some (.int .i64 en) := by rw [cell_of_row w p 3 _ _ _ h]; rfl
theorem upd {F : Nat → Prop} {w' : World} (h : BadAt w p v a why en) (u : Upd F w w') (hp : ¬ F p) : BadAt w' p v a why en := (u.block p h.lt hp).trans h
end BadAt

set_option maxHeartbeats 1000000 in
theorem refuse_any (w : World) (B p : Nat) (v : Value) (l : List UInt8) (a : Nat) (h : ReaderAt w B p v l a) (why en : Int) :
    Calls Try.prog 84 #[.pointer (some ⟨p, 0, none⟩), .int .i64 why, .int .i64 en] w fun e w' => e = .returned (.tuple #[]) ∧ BadAt w' p v a why en ∧ Upd (fun k => k = p) w w' := by
  have k2 := h.c2
  have hk3 : w.cell? ⟨p, 3, none⟩ = some (.int .i64 0) := by rw [cell_of_row w p 3 _ _ _ h.at_]; rfl
  have f2 := h.f0 2
  have f3 := h.f0 3
  have H := Lib.hid h
  clear h
  go_enter Try.func84, Try.ntmps84
  go_wp2_with fail
  go_end0
  refine ⟨rfl, ?_, ((Upd.refl (fun k => k = p) w).setCell (fun _ => rfl) _).setCell (fun _ => rfl) _⟩
  exact (setCell_at (setCell_at H.out.at_ _) _).trans rfl

set_option maxHeartbeats 1000000 in
theorem takeShort_any (w : World) (B p : Nat) (v : Value) (l : List UInt8) (a : Nat) (h : ReaderAt w B p v l a) (n : Nat) (ha : a ≤ l.length) (hn : l.length < a + n) (hl : l.length ≤ 100000000) (hn2 : n ≤ 100000) :
    Calls Try.prog 71 #[.pointer (some ⟨p, 0, none⟩), .int .i64 (n : Int)] w fun e w' => e = .returned (.slice none 0 0) ∧ BadAt w' p v a 10 (l.length : Int) ∧ Upd (fun k => k = p) w w' := by
  obtain ⟨A, c, rfl, _⟩ := own_slice h.own
  have k0 := h.c0
  have k1 := h.c1
  have k2 := h.c2
  have H := Lib.hid h
  clear h
  have hw1 : IntKind.i64.wrap ((l.length : Int) - (a : Int)) = (l.length : Int) - (a : Int) := by rw [IntKind.wrap_i64]; omega
  have hw2 : (l.length : Int) - (a : Int) < (n : Int) := by omega
  go_enter Try.func71, Try.ntmps71
  go_wp2_with fail
  go_region
  go_wp2_with fail
  refine (refuse_any w.drew B p _ l a H.out.drew 10 (l.length : Int)).mono ?_
  rintro e w2 ⟨rfl, hw, hu⟩
  have H2 := Lib.hid hw
  have HU := Lib.hid ((Upd.refl (fun k => k = p) w).drew.trans hu (fun _ _ h => h))
  clear hw hu
  go_wp2_with fail
  go_ret
  exact ⟨rfl, H2.out, HU.out⟩

set_option maxHeartbeats 1000000 in
theorem endBad_any (w : World) (p : Nat) (v : Value) (a : Nat) (why en : Int) (h : BadAt w p v a why en) (hw : why ≠ 0) :
    Calls Try.prog 40 #[.pointer (some ⟨p, 0, none⟩)] w fun e w' => e = .returned (.tuple #[.int .i64 why, .int .i64 en]) ∧ Upd (fun k => k = p) w w' := by
  have k2 := h.c2
  have k3 := h.c3
  have hne : (why != 0) = true := by simpa using hw
  clear h
  go_enter Try.func40, Try.ntmps40
  go_wp2_with fail
  go_region
  all_goals
    go_wp2_with fail
    go_ret2
    exact ⟨rfl, (Upd.refl _ _).drew⟩

end Go.Proofs.Ytjakhemolecbnaa
end

/-
  The walks of wire's reader in any state: what is there, what is short, and behind a refusal.
-/
section
set_option linter.unusedVariables false
set_option linter.unusedSimpArgs false
namespace Go.Proofs.Ytjakhemolecbnaa
open Go.RowKit

/-- A reader's state: the place; the refusal (0: none) and its place. -/
structure Rs where
  a : Nat
  why : Int
  en : Int
def rawS (l : List UInt8) (n : Nat) (s : Rs) : List UInt8 × Rs :=
  if s.why ≠ 0 then ([], s) else if l.length < s.a + n then ([], ⟨s.a, 10, l.length⟩) else ((l.drop s.a).take n, ⟨s.a + n, s.why, s.en⟩)
def fourS (l : List UInt8) (s : Rs) : Nat × Rs := (numOf (rawS l 4 s).1, (rawS l 4 s).2)
def byteS (l : List UInt8) (s : Rs) : UInt8 × Rs := ((rawS l 1 s).1.headD 0, (rawS l 1 s).2)
def countS (l : List UInt8) (most : Nat) (s : Rs) : Nat × Rs := if most < (fourS l s).1 then (0, ⟨(fourS l s).2.a, 3, s.a⟩) else fourS l s
def textS (l : List UInt8) (most : Nat) (s : Rs) : List UInt8 × Rs := rawS l (countS l most s).1 (countS l most s).2
def leftS (l : List UInt8) (s : Rs) : Nat := if s.why ≠ 0 then 0 else l.length - s.a
def endS (l : List UInt8) (s : Rs) : Int × Int := if s.why ≠ 0 then (s.why, s.en) else if s.a < l.length then (11, s.a) else (0, 0)
theorem rawS_length (l : List UInt8) (n : Nat) (s : Rs) : (rawS l n s).1.length ≤ n := by
  unfold rawS
  split
  · simp
  · split
    · simp
    · simp; omega
theorem fourS_lt (l : List UInt8) (s : Rs) : (fourS l s).1 < 4294967296 := by
  have h1 := numOf_lt (rawS l 4 s).1
  have h2 : 256 ^ (rawS l 4 s).1.length ≤ 256 ^ 4 := Nat.pow_le_pow_right (by omega) (rawS_length l 4 s)
  have h3 : 256 ^ 4 = 4294967296 := by decide
  show numOf _ < _
  omega
theorem rawS_bad {l : List UInt8} {n : Nat} {s : Rs} (h : s.why ≠ 0) : rawS l n s = ([], s) := by unfold rawS; rw [if_pos h]
theorem fourS_bad {l : List UInt8} {s : Rs} (h : s.why ≠ 0) : fourS l s = (0, s) := by unfold fourS; rw [rawS_bad h]; rfl
theorem countS_bad {l : List UInt8} {most : Nat} {s : Rs} (h : s.why ≠ 0) : countS l most s = (0, s) := by unfold countS; rw [fourS_bad h]; simp
theorem countS_le (l : List UInt8) (most : Nat) (s : Rs) : (countS l most s).1 ≤ most := by
  unfold countS
  split
  · simp
  · omega

structure RdAt (w : World) (B p : Nat) (v : Value) (l : List UInt8) (s : Rs) : Prop where
  at_ : w.heap[p]? = some (.cells #[v, .int .i64 (s.a : Int), .int .i64 s.why, .int .i64 s.en] 127 (0, 0))
  own : w.ownsRow B 5 1 v l.length (bv l)
  ne : v.ownBlock ≠ some p
  base : B ≤ p
  le : s.a ≤ l.length
  z : s.why = 0 → s.en = 0
namespace RdAt
variable {w w' : World} {B p : Nat} {v : Value} {l : List UInt8} {s : Rs}
theorem lt (h : RdAt w B p v l s) : p < w.heap.size := (Array.getElem?_eq_some_iff.1 h.at_).1
theorem c0 (h : RdAt w B p v l s) : w.cell? ⟨p, 0, none⟩ = some v := by rw [cell_of_row w p 0 _ _ _ h.at_]; rfl
theorem c1 (h : RdAt w B p v l s) : w.cell? ⟨p, 1, none⟩ = some (.int .i64 (s.a : Int)) := by rw [cell_of_row w p 1 _ _ _ h.at_]; rfl
theorem c2 (h : RdAt w B p v l s) : w.cell? ⟨p, 2, none⟩ = some (.int .i64 s.why) := by rw [cell_of_row w p 2 _ _ _ h.at_]; rfl
theorem c3 (h : RdAt w B p v l s) : w.cell? ⟨p, 3, none⟩ = some (.int .i64 s.en) := by rw [cell_of_row w p 3 _ _ _ h.at_]; rfl
theorem f0 (h : RdAt w B p v l s) (j : Nat) : w.frozen? ⟨p, j, none⟩ = false := frozen_of_row w p j _ _ h.at_
theorem upd {F : Nat → Prop} (h : RdAt w B p v l s) (u : Upd F w w') (hp : ¬ F p) (hv : ∀ k, v.ownBlock = some k → ¬ F k) : RdAt w' B p v l s :=
  ⟨(u.block p h.lt hp).trans h.at_, own_upd h.own u hv, h.ne, h.base, h.le, h.z⟩
theorem below (h : RdAt w B p v l s) (hb : Below w.heap.size w w') : RdAt w' B p v l s := h.upd (Upd.of_below (F := fun _ => False) hb) id (fun _ _ => id)
theorem drew (h : RdAt w B p v l s) : RdAt w.drew B p v l s := ⟨h.at_, h.own, h.ne, h.base, h.le, h.z⟩
theorem good (h : RdAt w B p v l s) (h0 : s.why = 0) : ReaderAt w B p v l s.a := by
  have h1 := h.at_
  rw [h0, h.z h0] at h1
  exact ⟨h1, h.own, h.ne, h.base⟩
theorem of_good {a : Nat} (h : ReaderAt w B p v l a) (ha : a ≤ l.length) : RdAt w B p v l ⟨a, 0, 0⟩ := ⟨h.at_, h.own, h.ne, h.base, ha, fun _ => rfl⟩
theorem of_bad {a : Nat} {why en : Int} (h : RdAt w B p v l s) (u : Upd (fun k => k = p) w w') (hb : BadAt w' p v a why en) (hw : why ≠ 0) (ha : a ≤ l.length) : RdAt w' B p v l ⟨a, why, en⟩ :=
  ⟨hb, own_upd h.own u (fun k hk e => h.ne (e ▸ hk)), h.ne, h.base, ha, fun e => absurd e hw⟩
theorem goes {w0 : World} (h : RdAt w B p v l s) (hb : Below B w0 w) (hB : B ≤ w.heap.size) (u : Upd (fun k => k = p) w w') : Below B w0 w' := below_upd hb hB u (fun k hk => by rw [hk]; exact h.base)
end RdAt

set_option maxHeartbeats 1000000 in
theorem takeRefused_any (w : World) (B p : Nat) (v : Value) (l : List UInt8) (s : Rs) (h : RdAt w B p v l s) (n : Int) (h0 : s.why ≠ 0) :
    Calls Try.prog 71 #[.pointer (some ⟨p, 0, none⟩), .int .i64 n] w fun e w' => e = .returned (.slice none 0 0) ∧ w = w' := by
  have k2 := h.c2
  have hne : (s.why != 0) = true := by simpa using h0
  clear h
  go_enter Try.func71, Try.ntmps71
  go_wp2_with fail
  go_ret
  exact ⟨rfl, rfl⟩

set_option maxHeartbeats 4000000 in
theorem takeZero_any (w : World) (B p : Nat) (v : Value) (l : List UInt8) (h : ReaderAt w B p v l l.length) (hl : l.length ≤ 100000000) :
    Calls Try.prog 71 #[.pointer (some ⟨p, 0, none⟩), .int .i64 0] w fun e w' => ∃ A c, e = .returned (.slice A 0 c) ∧ ReaderAt w' B p v l l.length ∧ Upd (fun k => k = p) w w' := by
  have k0 := h.c0
  have k1 := h.c1
  have k2 := h.c2
  have f1 := h.f0 1
  have hlt := h.lt
  have H := Lib.hid h
  have hfin : ∀ w' : World, w' = (w.setCell ⟨p, 1, none⟩ (.int .i64 (l.length : Int))).drew.drew → ReaderAt w' B p v l l.length ∧ Upd (fun k => k = p) w w' := by
    rintro w' rfl
    have hb1 : Upd (fun k => k = p) w (w.setCell ⟨p, 1, none⟩ (.int .i64 (l.length : Int))) := (Upd.refl (fun k => k = p) w).setCell (fun _ => rfl) _
    exact ⟨⟨(setCell_at h.at_ _).trans rfl, own_setCell h.own h.ne _, h.ne, h.base⟩, hb1.drew.drew⟩
  have HFIN := Lib.hid hfin
  have hw1 : IntKind.i64.wrap ((l.length : Int) - (l.length : Int)) = 0 := by rw [IntKind.wrap_i64]; omega
  have hw3 : IntKind.i64.wrap (l.length : Int) = (l.length : Int) := by rw [IntKind.wrap_i64]; omega
  rcases h.own.2 with ⟨rfl, hn0⟩ | ⟨g, cap, cur, rfl, hb, hg, hnc, _⟩
  · obtain rfl := List.eq_nil_of_length_eq_zero hn0
    simp only [List.length_nil] at k1 hw1 hw3 HFIN
    clear h hfin hn0 hw3 hw1
    go_enter Try.func71, Try.ntmps71
    go_wp2_with fail
    go_region
    go_wp2_with fail
    go_region
    go_wp2_with fail
    go_ret
    exact ⟨_, _, rfl, HFIN.out _ rfl⟩
  · clear h hfin
    have hl0 : (0 : Int) ≤ (l.length : Int) := by omega
    by_cases hc : cap = l.length
    · subst hc
      go_enter Try.func71, Try.ntmps71
      go_wp2_with fail
      go_region
      go_wp2_with fail
      go_region
      go_wp2_with fail
      go_ret
      exact ⟨_, _, rfl, HFIN.out _ rfl⟩
    · have hcl : (l.length : Int) ≤ (cap : Int) := by omega
      go_enter Try.func71, Try.ntmps71
      go_wp2_with fail
      go_region
      go_wp2_with fail
      go_region
      go_wp2_with fail
      go_ret
      exact ⟨_, _, rfl, HFIN.out _ rfl⟩

theorem take_g (w : World) (B p : Nat) (v : Value) (l : List UInt8) (s : Rs) (h : RdAt w B p v l s) (n : Nat) (hn : n ≤ 100000) (hl : l.length ≤ 100000000) :
    Calls Try.prog 71 #[.pointer (some ⟨p, 0, none⟩), .int .i64 (n : Int)] w fun e w' => ∃ A c, e = .returned (.slice A (rawS l n s).1.length c) ∧ RB w' A (rawS l n s).1 ∧ RdAt w' B p v l (rawS l n s).2 ∧ Upd (fun k => k = p) w w' := by
  unfold rawS
  by_cases h0 : s.why = 0
  · rw [if_neg (by simpa using h0)]
    by_cases h1 : l.length < s.a + n
    · rw [if_pos h1]
      refine (takeShort_any w B p v l s.a (h.good h0) n h.le h1 hl hn).mono ?_
      rintro e w' ⟨rfl, hb, hu⟩
      exact ⟨none, 0, rfl, RB.nil _ _, h.of_bad hu hb (by omega) h.le, hu⟩
    · rw [if_neg h1]
      have e1 : ((l.drop s.a).take n).length = n := by rw [List.length_take, List.length_drop]; omega
      by_cases h2 : s.a < l.length
      · refine (take3_any w B p v l s.a (h.good h0) n h2 (by omega) hl).mono ?_
        rintro e w' ⟨A, c, rfl, hr, ht, hu⟩
        have := RdAt.of_good ht (by omega)
        rw [h0, h.z h0]
        exact ⟨A, c, by rw [e1], hr, this, hu⟩
      · have ha : s.a = l.length := by have := h.le; omega
        obtain rfl : n = 0 := by omega
        have hg := h.good h0
        rw [ha] at hg
        refine (takeZero_any w B p v l hg hl).mono ?_
        rintro e w' ⟨A, c, rfl, ht, hu⟩
        have := RdAt.of_good ht (Nat.le_refl _)
        rw [h0, h.z h0, ha]
        exact ⟨A, c, by simp, by simp; exact RB.nil _ _, this, hu⟩
  · rw [if_pos h0]
    refine (takeRefused_any w B p v l s h (n : Int) h0).mono ?_
    rintro e w' ⟨rfl, rfl⟩
    exact ⟨none, 0, rfl, RB.nil _ _, h, Upd.refl _ _⟩

set_option maxHeartbeats 4000000 in
theorem get_g (w : World) (B p : Nat) (v : Value) (l : List UInt8) (s : Rs) (h : RdAt w B p v l s) (n : Nat) (hn8 : n ≤ 7) (hl : l.length ≤ 100000000) :
    Calls Try.prog 70 #[.pointer (some ⟨p, 0, none⟩), .int .i64 (n : Int)] w fun e w' => e = .returned (.int .u64 (numOf (rawS l n s).1 : Nat)) ∧ RdAt w' B p v l (rawS l n s).2 ∧ Upd (fun k => k = p) w w' := by
  go_enter Try.func70, Try.ntmps70
  have hx := rawS_length l n s
  obtain ⟨x, ex⟩ : ∃ x, x = (rawS l n s).1 := ⟨_, rfl⟩
  obtain ⟨m, em⟩ : ∃ m, m = x.length := ⟨_, rfl⟩
  rw [← ex] at hx ⊢
  rw [← em] at hx
  obtain ⟨s2, es⟩ : ∃ s2, s2 = (rawS l n s).2 := ⟨_, rfl⟩
  rw [← es]
  have EM := Lib.hid em
  have HM7 : m ≤ 7 := by omega
  go_wp2_with fail
  refine wp_scope_loop 0 (fun a' w' => ∃ (i c y : Nat) (A : Option Addr) (u8 u9 u10 u11 u12 u13 u14 u15 u16 u17 u18 u19 u20 u21 u22 u23 u24 u25 : Value),
    a' = { tmps := #[.pointer (some ⟨p, 0, none⟩), .int .i64 (n : Int), undef, undef, .int .u64 0, .int .u64 (y : Int), .slice A m c, .int .i64 (i : Int), u8, u9, u10, u11, u12, u13, u14, u15, u16, u17, u18, u19, u20, u21, u22, u23, u24, u25], defers := [] } ∧
    y = numOf (x.take i) ∧ i ≤ m ∧ RB w' A x ∧ RdAt w' B p v l s2 ∧ Upd (fun k => k = p) w w') (fun a' _ => ((m : Int) - intOf (a'.tmps.getD 7 undef)).toNat) rfl ?pass ?first
  case first =>
    intro hrest
    go_wp2_with fail
    refine (take_g w B p v l s h n (by omega) hl).mono ?_
    rw [← ex, ← es, ← em]
    rintro e w1 ⟨A, c, rfl, hr, hw, hb⟩
    have H := Lib.hid hw
    have HR := Lib.hid hr
    have HB := Lib.hid hb
    clear h hw hr hb ex es em
    go_wp2_with fail
    go_step3
    rename_i hK
    refine hK _ _ (hrest _ _ ?_)
    exact ⟨0, _, 0, _, _, _, _, _, _, _, _, _, _, _, _, _, _, _, _, _, _, _, rfl, by simp [numOf], by omega, HR.out, H.out, HB.out⟩
  case pass =>
    rintro a' w' ⟨i, c, y, A, u8, u9, u10, u11, u12, u13, u14, u15, u16, u17, u18, u19, u20, u21, u22, u23, u24, u25, rfl, hy, hi, hr, hw, hb⟩
    have H := Lib.hid hw
    have HR := Lib.hid hr
    have HB := Lib.hid hb
    clear h hw hr hb ex es em
    by_cases hlt : i < m
    · have hix : i < x.length := by rw [← EM.out]; exact hlt
      obtain ⟨b, o, rfl, hc⟩ := HR.out.parts (by omega)
      have k1 := hc i hix
      have hs : numOf (x.take (i + 1)) = numOf (x.take i) * 256 + x[i].toNat := by
        rw [List.take_succ_eq_append_getElem (by omega), numOf_snoc]
      have hb1 : numOf (x.take i) < 72057594037927936 := by
        have h1 := numOf_lt (x.take i)
        have h2 : 256 ^ (x.take i).length ≤ 256 ^ 7 := Nat.pow_le_pow_right (by omega) (by rw [List.length_take]; omega)
        have h3 : 256 ^ 7 = 72057594037927936 := by decide
        omega
      rw [← hy] at hs hb1
      have ho := or64_low y x[i] hb1
      rw [← hs, Int.natCast_mul] at ho
      have HS := Lib.hid hs
      obtain ⟨y1, ey1⟩ : ∃ y1, y1 = numOf (x.take (i + 1)) := ⟨_, rfl⟩
      rw [← ey1] at ho
      have EY := Lib.hid ey1
      have hwb := un8_range x[i]
      have how : IntKind.u64.wrap (un8 x[i]) = un8 x[i] := by rw [IntKind.wrap_u64]; omega
      generalize x[i] = bb at *
      have hw1 : IntKind.u64.wrap ((y : Int) * 256) = (y : Int) * 256 := by rw [IntKind.wrap_u64]; omega
      clear hc hs hy hb1 ey1 hwb hix
      have ho' : bits .or .u64 ((y : Int) * 256) (un8 bb) = (y1 : Int) := ho
      clear ho
      go_wp2_with fail
      go_step3
      refine ⟨rfl, ⟨i + 1, _, y1, _, _, _, _, _, _, _, _, _, _, _, _, _, _, _, _, _, _, _, rfl, EY.out, by omega, HR.out, H.out, HB.out⟩, by simp [intOf]; omega⟩
    · obtain rfl : i = m := by omega
      rw [show x.take i = x from List.take_of_length_le (by rw [← EM.out]; exact Nat.le_refl _)] at hy
      have HYY := Lib.hid hy
      clear hy
      go_wp2_with fail
      simp only [Exit.jump]
      go_ret
      exact ⟨by rw [← HYY.out]; rfl, H.out, HB.out⟩

set_option maxHeartbeats 1000000 in
theorem four_g (w : World) (B p : Nat) (v : Value) (l : List UInt8) (s : Rs) (h : RdAt w B p v l s) (hl : l.length ≤ 100000000) :
    Calls Try.prog 83 #[.pointer (some ⟨p, 0, none⟩)] w fun e w' => e = .returned (.int .i64 ((fourS l s).1 : Nat)) ∧ RdAt w' B p v l (fourS l s).2 ∧ Upd (fun k => k = p) w w' := by
  have hlt := fourS_lt l s
  obtain ⟨y, ey⟩ : ∃ y, y = (fourS l s).1 := ⟨_, rfl⟩
  rw [← ey] at hlt ⊢
  go_enter Try.func83, Try.ntmps83
  go_wp2_with fail
  refine (get_g w B p v l s h 4 (by omega) hl).mono ?_
  rw [show numOf (rawS l 4 s).1 = y from ey.symm]
  rintro e w1 ⟨rfl, hw, hb⟩
  have H := Lib.hid hw
  have HB := Lib.hid hb
  clear hw hb h ey
  have hw : IntKind.i64.wrap (y : Int) = (y : Int) := by rw [IntKind.wrap_i64]; omega
  clear hlt
  go_wp2_with fail
  go_ret
  exact ⟨rfl, H.out, HB.out⟩

theorem num_one : ∀ x : List UInt8, x.length ≤ 1 → ((numOf x : Nat) : Int) = un8 (x.headD 0)
  | [], _ => rfl
  | [y], _ => by simp [numOf, un8]
  | _ :: _ :: _, h => by simp at h
set_option maxHeartbeats 1000000 in
theorem byte_g (w : World) (B p : Nat) (v : Value) (l : List UInt8) (s : Rs) (h : RdAt w B p v l s) (hl : l.length ≤ 100000000) :
    Calls Try.prog 38 #[.pointer (some ⟨p, 0, none⟩)] w fun e w' => e = .returned (.int .i64 (un8 (byteS l s).1)) ∧ RdAt w' B p v l (byteS l s).2 ∧ Upd (fun k => k = p) w w' := by
  have hx := un8_range (byteS l s).1
  have E2 := Lib.hid (num_one (rawS l 1 s).1 (rawS_length l 1 s))
  obtain ⟨x, ex⟩ : ∃ x, x = (byteS l s).1 := ⟨_, rfl⟩
  rw [← ex] at hx ⊢
  go_enter Try.func38, Try.ntmps38
  go_wp2_with fail
  refine (get_g w B p v l s h 1 (by omega) hl).mono ?_
  rw [E2.out, show (rawS l 1 s).1.headD 0 = x from ex.symm]
  rintro e w1 ⟨rfl, hw, hb⟩
  have H := Lib.hid hw
  have HB := Lib.hid hb
  clear hw hb h ex
  have hw : IntKind.i64.wrap (un8 x) = un8 x := by rw [IntKind.wrap_i64]; omega
  clear hx
  go_wp2_with fail
  go_ret
  exact ⟨rfl, H.out, HB.out⟩

set_option maxHeartbeats 1000000 in
theorem count_g (w : World) (B p : Nat) (v : Value) (l : List UInt8) (s : Rs) (h : RdAt w B p v l s) (hl : l.length ≤ 100000000) (most : Nat) (hmo : most ≤ 100000) :
    Calls Try.prog 66 #[.pointer (some ⟨p, 0, none⟩), .int .i64 (most : Int)] w fun e w' => e = .returned (.int .i64 ((countS l most s).1 : Nat)) ∧ RdAt w' B p v l (countS l most s).2 ∧ Upd (fun k => k = p) w w' := by
  have H := Lib.hid h
  have k1 := h.c1
  have hbad : s.why ≠ 0 → (fourS l s).1 = 0 := fun hw => by rw [fourS_bad hw]
  have hkeep : (fourS l s).1 ≠ 0 → (fourS l s).2.why = 0 := fun hm => by
    by_cases hw : s.why = 0
    · unfold fourS rawS at hm ⊢
      rw [if_neg (by simpa using hw)] at hm ⊢
      split
      · rename_i h3
        rw [if_pos h3] at hm
        simp [numOf] at hm
      · exact hw
    · exact absurd (hbad hw) hm
  have hz : (fourS l s).2.why ≠ 0 → (fourS l s).1 = 0 := fun hw => Classical.byContradiction fun hm => hw (hkeep hm)
  unfold countS
  obtain ⟨m, em⟩ : ∃ m, m = (fourS l s).1 := ⟨_, rfl⟩
  obtain ⟨s2, es⟩ : ∃ s2, s2 = (fourS l s).2 := ⟨_, rfl⟩
  have E : fourS l s = (m, s2) := by rw [em, es]
  rw [E] at hkeep hz ⊢
  have HZ := Lib.hid hz
  have HKP := Lib.hid hkeep
  have EM := Lib.hid em
  have ES := Lib.hid es
  dsimp only
  clear h hbad hkeep hz em es E
  have hmx : max (most : Int) 0 = (most : Int) := by omega
  by_cases hgt : most < m
  · rw [if_pos hgt]
    go_enter Try.func66, Try.ntmps66
    go_wp2_with fail
    refine (four_g w B p v l s H.out hl).mono ?_
    rw [← EM.out, ← ES.out]
    rintro e w1 ⟨rfl, hw, hb⟩
    have H1 := Lib.hid hw
    have HB := Lib.hid hb
    clear hw hb
    have hgt' : (most : Int) < (m : Int) := by omega
    go_wp2_with fail
    have h0 := HKP.out (by omega)
    refine (refuse_any w1 B p v l s2.a (H1.out.good h0) 3 (s.a : Int)).mono ?_
    rintro e w2 ⟨rfl, hw, hu⟩
    have k2 := hw.c2
    have H2 := Lib.hid (H1.out.of_bad hu hw (by omega) H1.out.le)
    have HB2 := Lib.hid (HB.out.trans hu (fun _ _ h => h))
    clear hw hu h0
    go_wp2_with fail
    go_ret
    exact ⟨rfl, H2.out, HB2.out⟩
  · rw [if_neg hgt]
    by_cases h0 : s2.why = 0
    · go_enter Try.func66, Try.ntmps66
      go_wp2_with fail
      refine (four_g w B p v l s H.out hl).mono ?_
      rw [← EM.out, ← ES.out]
      rintro e w1 ⟨rfl, hw, hb⟩
      have k2 := hw.c2
      have H1 := Lib.hid hw
      have HB := Lib.hid hb
      clear hw hb
      have hgt' : ¬ ((most : Int) < (m : Int)) := by omega
      go_wp2_with fail
      go_ret
      exact ⟨rfl, H1.out, HB.out⟩
    · have hne : (s2.why != 0) = true := by simpa using h0
      go_enter Try.func66, Try.ntmps66
      go_wp2_with fail
      refine (four_g w B p v l s H.out hl).mono ?_
      rw [← EM.out, ← ES.out]
      rintro e w1 ⟨rfl, hw, hb⟩
      have k2 := hw.c2
      have H1 := Lib.hid hw
      have HB := Lib.hid hb
      clear hw hb
      have hgt' : ¬ ((most : Int) < (m : Int)) := by omega
      go_wp2_with fail
      go_ret
      exact ⟨by rw [show m = 0 from HZ.out h0]; rfl, H1.out, HB.out⟩

set_option maxHeartbeats 1000000 in
theorem text_g (w : World) (B p : Nat) (v : Value) (l : List UInt8) (s : Rs) (h : RdAt w B p v l s) (hl : l.length ≤ 100000000) (most : Nat) (hmo : most ≤ 100000) :
    Calls Try.prog 39 #[.pointer (some ⟨p, 0, none⟩), .int .i64 (most : Int)] w fun e w' => e = .returned (.string (strB (textS l most s).1)) ∧ RdAt w' B p v l (textS l most s).2 ∧ Upd (fun k => k = p) w w' := by
  have H := Lib.hid h
  clear h
  have hcl := countS_le l most s
  unfold textS
  obtain ⟨m, em⟩ : ∃ m, m = (countS l most s).1 := ⟨_, rfl⟩
  obtain ⟨s2, es⟩ : ∃ s2, s2 = (countS l most s).2 := ⟨_, rfl⟩
  rw [← em] at hcl
  rw [← em, ← es]
  have EM := Lib.hid em
  have ES := Lib.hid es
  have HCL := Lib.hid hcl
  obtain ⟨x, ex⟩ : ∃ x, x = (rawS l m s2).1 := ⟨_, rfl⟩
  rw [← ex]
  have EX := Lib.hid ex
  clear em es hcl ex
  go_enter Try.func39, Try.ntmps39
  go_wp2_with fail
  refine (count_g w B p v l s H.out hl most hmo).mono ?_
  rw [← EM.out, ← ES.out]
  rintro e w1 ⟨rfl, hw, hb⟩
  have H1 := Lib.hid hw
  have HB1 := Lib.hid hb
  clear hw hb
  go_wp2_with fail
  refine (take_g w1 B p v l s2 H1.out m (by have := HCL.out; omega) hl).mono ?_
  rw [← EX.out]
  rintro e w2 ⟨A, c, rfl, hr, hw, hb⟩
  have hst := run_string_RB (P := Try.prog) w2 25 9 5 Try.underlying25 Try.underlying5 Try.underlying9 A x.length c x rfl hr
  have H2 := Lib.hid hw
  have HB2 := Lib.hid (HB1.out.trans hb (fun _ _ h => h))
  clear hw hb hr
  go_wp2_with fail
  go_ret
  exact ⟨rfl, H2.out, HB2.out⟩

set_option maxHeartbeats 1000000 in
theorem left_g (w : World) (B p : Nat) (v : Value) (l : List UInt8) (s : Rs) (h : RdAt w B p v l s) (hl : l.length ≤ 100000000) :
    Calls Try.prog 67 #[.pointer (some ⟨p, 0, none⟩)] w fun e w' => e = .returned (.int .i64 ((leftS l s : Nat) : Int)) ∧ RdAt w' B p v l s ∧ Upd (fun k => k = p) w w' := by
  unfold leftS
  by_cases h0 : s.why = 0
  · rw [if_neg (by simpa using h0)]
    refine (readerLeft2_any w B p v l s.a (h.good h0) h.le hl).mono ?_
    rintro e w' ⟨rfl, hr, hu⟩
    refine ⟨rfl, ?_, hu⟩
    have := RdAt.of_good hr h.le
    have e2 : s = ⟨s.a, 0, 0⟩ := by
      have h2 := h.z h0
      cases s
      simp only at h0 h2
      subst h0 h2
      rfl
    rw [e2]
    exact this
  · rw [if_pos h0]
    have k2 := h.c2
    have H := Lib.hid h
    have hne : (s.why != 0) = true := by simpa using h0
    clear h
    go_enter Try.func67, Try.ntmps67
    go_wp2_with fail
    go_ret
    exact ⟨rfl, H.out, Upd.refl _ _⟩

set_option maxHeartbeats 1000000 in
theorem end_g (w : World) (B p : Nat) (v : Value) (l : List UInt8) (s : Rs) (h : RdAt w B p v l s) (hl : l.length ≤ 100000000) :
    Calls Try.prog 40 #[.pointer (some ⟨p, 0, none⟩)] w fun e w' => e = .returned (.tuple #[.int .i64 (endS l s).1, .int .i64 (endS l s).2]) ∧ Upd (fun k => k = p) w w' := by
  unfold endS
  by_cases h0 : s.why = 0
  · rw [if_neg (by simpa using h0)]
    by_cases h1 : s.a < l.length
    · rw [if_pos h1]
      obtain ⟨A, c, rfl, _⟩ := own_slice h.own
      have g := h.good h0
      have k0 := g.c0
      have k1 := g.c1
      have k2 := g.c2
      have H := Lib.hid h
      clear h g
      have hlt : ((s.a : Int) < (l.length : Int)) := by omega
      go_enter Try.func40, Try.ntmps40
      go_wp2_with fail
      go_region
      all_goals
        go_wp2_with fail
        go_region
        all_goals
          go_wp2_with fail
          go_ret2
          exact ⟨rfl, (Upd.refl _ _).drew.drew⟩
    · rw [if_neg h1]
      refine (readerEnd2_any w B p v l s.a (h.good h0) (by have := h.le; omega) hl).mono ?_
      rintro e w' ⟨rfl, hr, hu⟩
      exact ⟨rfl, hu⟩
  · rw [if_pos h0]
    exact endBad_any w p v s.a s.why s.en h.at_ h0
end Go.Proofs.Ytjakhemolecbnaa
end

/-
  The walk of Decode, of the chain, on any bytes.
-/
section
set_option linter.unusedVariables false
set_option linter.unusedSimpArgs false
namespace Go.Proofs.Ytjakhemolecbnaa
open Go.RowKit

abbrev Lks := List (List UInt8 × List UInt8)
def pad32 (x : List UInt8) : List UInt8 := if x.length = 32 then x else List.replicate 32 0
def linkS (l : List UInt8) (s : Rs) : (List UInt8 × List UInt8) × Rs :=
  (((textS l 4000 s).1, pad32 (rawS l 32 (textS l 4000 s).2).1), (rawS l 32 (textS l 4000 s).2).2)
/-- What is behind all links: refused, or the links. -/
def concS (l : List UInt8) (s : Rs) (M : Lks) (P : List Nat) : (Int × Int) ⊕ Lks :=
  if (endS l s).1 ≠ 0 then .inl (endS l s) else if checkOf M < M.length then .inl (12, ((P.getD (checkOf M) 0 : Nat) : Int)) else .inr M
def runS (l : List UInt8) : Nat → Rs → Lks → List Nat → (Int × Int) ⊕ Lks
  | 0, s, M, P => concS l s M P
  | k + 1, s, M, P => if s.why ≠ 0 then .inl (s.why, s.en) else runS l k (linkS l s).2 (M ++ [(linkS l s).1]) (P ++ [s.a])
def decS (l : List UInt8) : (Int × Int) ⊕ Lks := runS l (countS l 4096 ⟨0, 0, 0⟩).1 (countS l 4096 ⟨0, 0, 0⟩).2 [] []
theorem runS_bad (l : List UInt8) (k : Nat) (s : Rs) (M : Lks) (P : List Nat) (h : s.why ≠ 0) : runS l k s M P = .inl (s.why, s.en) := by
  cases k with
  | zero =>
    have e : endS l s = (s.why, s.en) := by unfold endS; rw [if_pos h]
    unfold runS concS
    rw [e, if_pos h]
  | succ k => unfold runS; rw [if_pos h]
theorem runS_short (l : List UInt8) (k : Nat) (s : Rs) (M : Lks) (P : List Nat) (h : s.why = 0) (ha : l.length ≤ s.a) : runS l (k + 1) s M P = .inl (10, (l.length : Int)) := by
  have e1 : rawS l 4 s = ([], ⟨s.a, 10, l.length⟩) := by unfold rawS; rw [if_neg (by simpa using h), if_pos (by omega)]
  have e2 : fourS l s = (0, ⟨s.a, 10, l.length⟩) := by unfold fourS; rw [e1]; rfl
  have e3 : countS l 4000 s = (0, ⟨s.a, 10, l.length⟩) := by unfold countS; rw [e2]; rfl
  have e4 : textS l 4000 s = ([], ⟨s.a, 10, l.length⟩) := by unfold textS; rw [e3]; exact rawS_bad (by simp)
  have e5 : (linkS l s).2 = ⟨s.a, 10, l.length⟩ := by unfold linkS; rw [e4, rawS_bad (by simp)]
  unfold runS
  rw [if_neg (by simpa using h), e5, runS_bad _ _ _ _ _ (by simp)]
theorem exit_short (l : List UInt8) (m : Nat) (s : Rs) (M : Lks) (P : List Nat) (ha : s.a ≤ l.length) (h0 : leftS l s = 0) : runS l (m + 1) s M P = .inl (endS l (byteS l s).2) ∧ (endS l (byteS l s).2).1 ≠ 0 := by
  unfold leftS at h0
  by_cases h : s.why = 0
  · rw [if_neg (by simpa using h)] at h0
    rw [runS_short l m s M P h (by omega)]
    have e1 : (byteS l s).2 = ⟨s.a, 10, l.length⟩ := by unfold byteS rawS; rw [if_neg (by simpa using h), if_pos (by omega)]
    rw [e1]
    have e2 : endS l ⟨s.a, 10, l.length⟩ = (10, (l.length : Int)) := by unfold endS; rw [if_pos (by simp)]
    rw [e2]
    exact ⟨rfl, by simp⟩
  · have e1 : (byteS l s).2 = s := by unfold byteS; rw [rawS_bad h]
    have e2 : endS l s = (s.why, s.en) := by unfold endS; rw [if_pos h]
    rw [e1, e2, runS_bad l (m + 1) s M P h]
    exact ⟨rfl, h⟩

/-- So many bytes, one behind the other. -/
def hS (l : List UInt8) (s : Rs) : Nat → List UInt8 × Rs
  | 0 => ([], s)
  | j + 1 => ((hS l s j).1 ++ [(byteS l (hS l s j).2).1], (byteS l (hS l s j).2).2)
theorem hS_length (l : List UInt8) (s : Rs) : ∀ j, (hS l s j).1.length = j
  | 0 => rfl
  | j + 1 => by rw [hS, List.length_append, hS_length l s j]; rfl
theorem hS_bad (l : List UInt8) (s : Rs) (h : s.why ≠ 0) : ∀ j, (hS l s j).2 = s
  | 0 => rfl
  | j + 1 => by
    show (byteS l (hS l s j).2).2 = s
    rw [hS_bad l s h j]
    unfold byteS
    rw [rawS_bad h]
theorem byteS_good (l : List UInt8) (s : Rs) (h : s.why = 0) (ha : s.a < l.length) : byteS l s = (l[s.a], ⟨s.a + 1, s.why, s.en⟩) := by
  have e : rawS l 1 s = ([l[s.a]], ⟨s.a + 1, s.why, s.en⟩) := by
    unfold rawS
    rw [if_neg (by simpa using h), if_neg (by omega), List.drop_eq_getElem_cons ha, List.take_succ_cons, List.take_zero]
  unfold byteS
  rw [e]
  rfl
theorem byteS_short (l : List UInt8) (s : Rs) (h : s.why = 0) (ha : l.length ≤ s.a) : (byteS l s).2 = ⟨s.a, 10, l.length⟩ := by
  unfold byteS rawS
  rw [if_neg (by simpa using h), if_pos (by omega)]
theorem hS_good (l : List UInt8) (s : Rs) (h : s.why = 0) : ∀ j, s.a + j ≤ l.length → hS l s j = ((l.drop s.a).take j, ⟨s.a + j, s.why, s.en⟩)
  | 0, _ => by cases s; rfl
  | j + 1, hj => by
    rw [hS, hS_good l s h j (by omega), byteS_good l ⟨s.a + j, s.why, s.en⟩ h (by show s.a + j < _; omega)]
    show (List.take j (List.drop s.a l) ++ [l[s.a + j]], (⟨s.a + j + 1, s.why, s.en⟩ : Rs)) = _
    rw [List.take_succ_eq_append_getElem (by rw [List.length_drop]; omega), List.getElem_drop]
    rfl
theorem hS_short (l : List UInt8) (s : Rs) (h : s.why = 0) (ha : s.a ≤ l.length) : ∀ j, l.length < s.a + j → (hS l s j).2.why = 10 ∧ (hS l s j).2.en = l.length
  | 0, hj => by omega
  | j + 1, hj => by
    show (byteS l (hS l s j).2).2.why = 10 ∧ (byteS l (hS l s j).2).2.en = l.length
    by_cases hlt : l.length < s.a + j
    · obtain ⟨h1, h2⟩ := hS_short l s h ha j hlt
      have hb : (byteS l (hS l s j).2).2 = (hS l s j).2 := by unfold byteS; rw [rawS_bad (by rw [h1]; decide)]
      rw [hb]
      exact ⟨h1, h2⟩
    · have e := hS_good l s h j (by omega)
      rw [e, byteS_short l ⟨s.a + j, s.why, s.en⟩ h (by show _ ≤ s.a + j; omega)]
      exact ⟨rfl, rfl⟩
/-- The bytes one by one end where the bytes at once do. -/
theorem run_hS (l : List UInt8) (k : Nat) (s : Rs) (t : List UInt8) (M : Lks) (P : List Nat) (ha : s.a ≤ l.length) :
    runS l k (hS l s 32).2 (M ++ [(t, (hS l s 32).1)]) P = runS l k (rawS l 32 s).2 (M ++ [(t, pad32 (rawS l 32 s).1)]) P := by
  by_cases h : s.why = 0
  · by_cases h2 : s.a + 32 ≤ l.length
    · have e : rawS l 32 s = ((l.drop s.a).take 32, ⟨s.a + 32, s.why, s.en⟩) := by unfold rawS; rw [if_neg (by simpa using h), if_neg (by omega)]
      have el : ((l.drop s.a).take 32).length = 32 := by rw [List.length_take, List.length_drop]; omega
      have ep : pad32 ((l.drop s.a).take 32) = (l.drop s.a).take 32 := by unfold pad32; rw [if_pos el]
      rw [hS_good l s h 32 h2, e]
      show _ = runS l k _ (M ++ [(t, pad32 ((l.drop s.a).take 32))]) P
      rw [ep]
    · obtain ⟨h3, h4⟩ := hS_short l s h ha 32 (by omega)
      have e : (rawS l 32 s).2 = ⟨s.a, 10, l.length⟩ := by unfold rawS; rw [if_neg (by simpa using h), if_pos (by omega)]
      rw [runS_bad _ _ _ _ _ (by rw [h3]; decide), e, runS_bad _ _ _ _ _ (by simp), h3, h4]
  · rw [hS_bad l s h 32, rawS_bad h, runS_bad _ _ _ _ _ h, runS_bad _ _ _ _ _ h]
theorem textS_small (l : List UInt8) (s : Rs) : (textS l 4000 s).1.length ≤ 4000 := by
  have h1 := countS_le l 4000 s
  have h2 := rawS_length l (countS l 4000 s).1 (countS l 4000 s).2
  unfold textS
  omega
theorem set_head (h : List UInt8) (j : Nat) (y : UInt8) (hj : h.length = j) (h32 : j < 32) : (h ++ List.replicate (32 - j) 0).set j y = h ++ [y] ++ List.replicate (32 - (j + 1)) 0 := by
  rw [List.set_append_right _ _ (by omega), show 32 - j = (32 - (j + 1)) + 1 by omega, List.replicate_succ, show j - h.length = 0 by omega, List.set_cons_zero]
  simp
def pvn (P : List Nat) : List Value := P.map fun (x : Nat) => Value.int .i64 (x : Int)
theorem pvn_snoc (P : List Nat) (a : Nat) : pvn (P ++ [a]) = pvn P ++ [.int .i64 (a : Int)] := by simp [pvn]

set_option maxRecDepth 100000 in
set_option maxHeartbeats 16000000 in
theorem decode_g (A : Option Addr) (n c : Nat) (l : List UInt8) (w : World) (hl : l.length = n) (hll : l.length ≤ 17000000) (hr : RB w A l) (hnil : A = none → c = 0) :
    Calls Try.prog 36 #[.slice A n c] w fun e w' => Below w.heap.size w w' ∧
      ((∃ why en, decS l = .inl (why, en) ∧ e = .returned (.tuple #[.slice none 0 0, .int .i64 why, .int .i64 en])) ∨
       (∃ M v, decS l = .inr M ∧ e = .returned (.tuple #[v, .int .i64 0, .int .i64 0]) ∧ w'.ownsRow w.heap.size 92 33 v M.length (lv M) ∧ (∀ x ∈ M, x.2.length = 32) ∧ (∀ x ∈ M, x.1.length ≤ 4000) ∧ M.length ≤ 4096)) := by
  subst hl
  have HR := Lib.hid hr
  have HNIL := Lib.hid hnil
  have HLL := Lib.hid hll
  obtain ⟨R, eR⟩ : ∃ R, R = decS l := ⟨_, rfl⟩
  rw [← eR]
  unfold decS at eR
  have hN := countS_le l 4096 ⟨0, 0, 0⟩
  obtain ⟨N, eN⟩ : ∃ N, N = (countS l 4096 ⟨0, 0, 0⟩).1 := ⟨_, rfl⟩
  obtain ⟨s0, eS⟩ : ∃ s0, s0 = (countS l 4096 ⟨0, 0, 0⟩).2 := ⟨_, rfl⟩
  rw [← eN, ← eS] at eR
  rw [← eN] at hN
  have HRR := Lib.hid eR.symm
  have HN := Lib.hid hN
  have EN := Lib.hid eN
  have ES := Lib.hid eS
  clear hr hnil hll eR eN eS hN
  obtain ⟨z33, hz33⟩ : ∃ z33, z33 = (lk ([], hd0)).toArray := ⟨_, rfl⟩
  have HZ33 := Lib.hid hz33
  clear hz33
  go_enter Try.func36, Try.ntmps36
  go_wp2_with fail
  refine wp_scope_loop 0 (fun a' w' => ∃ (lf q Bq : Nat) (s : Rs) (M : Lks) (P : List Nat) (vq vo vp : Value) (t : List Value),
    a' = { tmps := (.slice A l.length c :: undef :: .slice none 0 0 :: .int .i64 0 :: .int .i64 0 :: .pointer (some ⟨q, 0, none⟩) :: vo :: vp :: .int .i64 (lf : Int) :: t).toArray, defers := [] } ∧ t.length = 67 ∧
    lf + M.length ≤ 4096 ∧ RdAt w' w.heap.size q vq l s ∧ w'.ownsRow Bq 92 33 vo M.length (lv M) ∧ w'.ownsRow Bq 3 1 vp M.length (pvn P) ∧ q < Bq ∧ (∀ k, vq.ownBlock = some k → k < Bq) ∧ w.heap.size ≤ Bq ∧ (∀ k, vo.ownBlock = some k → vp.ownBlock ≠ some k) ∧ Bq ≤ w'.heap.size ∧ Below w.heap.size w w' ∧
    runS l lf s M P = R ∧ (∀ x ∈ M, x.2.length = 32) ∧ (∀ x ∈ M, x.1.length ≤ 4000) ∧ P.length = M.length)
    (fun a' _ => (intOf (a'.tmps.getD 8 undef)).toNat) rfl ?pass ?first
  case first =>
    intro hrest
    go_wp2_with fail
    refine (newReader_any A l.length c l _ rfl (by have := HLL.out; omega) HR.out HNIL.out).mono ?_
    rintro e w1 ⟨q, vq, rfl, hw, hb⟩
    have R1 := Lib.hid hw
    have B1 := Lib.hid hb
    clear hw hb
    go_wp2_with fail
    have hr0 := Lib.hid (RdAt.of_good R1.out (Nat.zero_le _))
    refine (count_g _ _ _ _ _ _ hr0.out (by have := HLL.out; omega) 4096 (by omega)).mono ?_
    rw [← EN.out, ← ES.out]
    rintro e w2 ⟨rfl, hw, hu⟩
    have hlq := R1.out.lt
    have hlv : ∀ k, vq.ownBlock = some k → k < w1.heap.size := fun k hk => (World.ownsRow.lt R1.out.own k hk).2
    have B2 := Lib.hid (below_upd B1.out B1.out.size hu (fun k hk => by rw [hk]; exact R1.out.base))
    have hsz := hu.size
    have R2 := Lib.hid hw
    have hsB := B1.out.size
    clear hw hu
    go_wp2_with fail
    go_step3
    rename_i hK
    refine hK _ _ (hrest _ _ ?_)
    exact ⟨N, q, w1.heap.size, s0, [], [], vq, _, _, _, rfl, rfl, by have := HN.out; simp; omega, R2.out, World.ownsRow_nil _ _ _ _, World.ownsRow_nil _ _ _ _, hlq, hlv, hsB, fun k hk => by simp [Value.ownBlock] at hk, hsz, B2.out, HRR.out, (fun x hx => by cases hx), (fun x hx => by cases hx), rfl⟩
  case pass =>
    rintro a' w' ⟨lf, q, Bq, s, M, P, vq, vo, vp, tl, rfl, htl0, hil, hrd, ho, hp, hqB, hvB, hwB, hdis, hBs, hb, hrun, hMh, hMt, hPl⟩
    obtain ⟨u, rfl⟩ := tail67 tl htl0
    clear htl0
    have HIL := Lib.hid hil
    have HRD := Lib.hid hrd
    have HO := Lib.hid ho
    have HP := Lib.hid hp
    have HQB := Lib.hid hqB
    have HVB := Lib.hid hvB
    have HWB := Lib.hid hwB
    have HDIS := Lib.hid hdis
    have HBS := Lib.hid hBs
    have HB := Lib.hid hb
    have HRUN := Lib.hid hrun
    have HMH := Lib.hid hMh
    have HMT := Lib.hid hMt
    have HPLN := Lib.hid hPl
    clear hil hrd ho hp hqB hvB hwB hdis hBs hb hrun hMh hMt hPl
    by_cases h0 : lf = 0
    · subst h0
      have hM4 : M.length ≤ 4096 := by have := HIL.out; omega
      obtain ⟨i, ei⟩ : ∃ i, i = M.length := ⟨_, rfl⟩
      rw [← ei] at hM4 HO HP
      have EI := Lib.hid ei
      clear ei
      go_wp2_with fail
      refine (end_g _ _ _ _ _ _ HRD.out (by have := HLL.out; omega)).mono ?_
      have hru := HRUN.out
      unfold runS concS at hru
      obtain ⟨ew, een, eend⟩ : ∃ ew een, endS l s = (ew, een) := ⟨_, _, rfl⟩
      rw [eend] at hru ⊢
      dsimp only at hru ⊢
      rintro e w2 ⟨rfl, hu⟩
      have hu0 := hu
      have ho2 := own_upd HO.out hu (fun k hk e => by have := (World.ownsRow.lt HO.out k hk).1; have := HQB.out; omega)
      have hb2 := below_upd HB.out HB.out.size hu (fun k hk => by rw [hk]; exact HRD.out.base)
      obtain ⟨Ao, co, rfl, _⟩ := own_slice ho2
      have HO2 := Lib.hid ho2
      have HB2 := Lib.hid hb2
      have hp2 := own_upd HP.out hu0 (fun k hk e => by have := (World.ownsRow.lt HP.out k hk).1; have := HQB.out; omega)
      have HP2 := Lib.hid hp2
      clear ho2 hb2 hu hu0 hp2 eend
      by_cases hew : ew ≠ 0
      · rw [if_pos hew] at hru
        have HRU := Lib.hid hru
        have hne : (ew != 0) = true := by simpa using hew
        clear hru
        go_wp2_with fail
        simp only [Exit.jump]
        go_ret3
        exact ⟨HB2.out, .inl ⟨_, _, HRU.out.symm, rfl⟩⟩
      obtain rfl : ew = 0 := Classical.byContradiction hew
      rw [if_neg (by simp)] at hru
      have HRU := Lib.hid hru
      clear hru
      go_wp2_with fail
      obtain ⟨K, eK⟩ : ∃ K, K = checkOf M := ⟨_, rfl⟩
      have hKl : K ≤ i := by rw [eK]; have := checkOf_le M; have := EI.out; omega
      refine (check_any Ao i co M w2 EI.out.symm (by omega) (fun x hx => by have := HMT.out x hx; omega) HMH.out (own_RC HO2.out)).mono ?_
      rw [← eK]
      rintro e w3 ⟨rfl, hb3⟩
      have HO3 := Lib.hid (own_below HO2.out hb3)
      have HP3 := Lib.hid (own_below HP2.out hb3)
      have HB3 := Lib.hid (below_below HB2.out HB2.out.size hb3)
      have HEK := Lib.hid eK
      clear hb3 eK
      by_cases hKi : K < i
      · obtain ⟨gp, cp, rfl, _, _⟩ := own_form HP3.out (by omega)
        have kp : w3.cell? ⟨gp, K, none⟩ = some (.int .i64 ((P.getD K 0 : Nat) : Int)) := by
          have hKP : K < P.length := by rw [HPLN.out, ← EI.out]; exact hKi
          have hlp : 0 < (pvn P).length := by simp [pvn]; omega
          obtain ⟨ad, e7, hc7⟩ := own_RC HP3.out hlp
          cases e7
          have := hc7 K _ (show (pvn P)[K]? = some (.int .i64 ((P.getD K 0 : Nat) : Int)) by simp [pvn, List.getElem?_eq_getElem hKP])
          rwa [add_off, Nat.zero_add] at this
        obtain ⟨pk, epk⟩ : ∃ pk, pk = P.getD K 0 := ⟨_, rfl⟩
        rw [← epk] at kp
        have EPK := Lib.hid epk
        clear epk
        have hK0 : (0 : Int) ≤ (K : Int) := by omega
        have hK1 : (K : Int) < (i : Int) := by omega
        have HKI := Lib.hid hKi
        clear hKi hKl
        go_upto_region 22 with fail
        go_region
        all_goals
          go_wp2_with fail
          simp only [Exit.jump]
          go_ret3
          refine ⟨HB3.out.drew, .inl ⟨12, (pk : Int), ?_, rfl⟩⟩
          rw [← HRU.out, ← HEK.out, if_pos (by rw [← EI.out]; exact HKI.out), ← EPK.out]
      · obtain rfl : K = i := by omega
        clear hKi hKl
        go_wp2_with fail
        simp only [Exit.jump]
        go_ret3
        refine ⟨HB3.out, .inr ⟨M, _, ?_, rfl, by rw [← EI.out]; exact own_lower HO3.out HWB.out, HMH.out, HMT.out, by rw [← EI.out]; exact hM4⟩⟩
        rw [← HRU.out, ← HEK.out, if_neg (by rw [EI.out]; exact Nat.lt_irrefl _)]
    · obtain ⟨m, rfl⟩ : ∃ m, lf = m + 1 := ⟨lf - 1, by omega⟩
      obtain ⟨i, ei⟩ : ∃ i, i = M.length := ⟨_, rfl⟩
      rw [← ei] at HIL HO HP HPLN
      have EI := Lib.hid ei
      have hmN : (m : Int) ≤ 4096 := by have := HIL.out; omega
      have hlc : (l.length : Int) ≤ 17000000 := by have := HLL.out; omega
      clear h0 ei
      obtain ⟨la, ela⟩ : ∃ la, la = leftS l s := ⟨_, rfl⟩
      have ELA := Lib.hid ela
      clear ela
      by_cases hlz0 : la = 0
      · subst hlz0
        obtain ⟨hx1, hx2⟩ := exit_short l m s M P HRD.out.le ELA.out.symm
        rw [HRUN.out] at hx1
        obtain ⟨yb, syb, eyb⟩ : ∃ yb syb, byteS l s = (yb, syb) := ⟨_, _, rfl⟩
        rw [eyb] at hx1 hx2
        dsimp only at hx1 hx2
        obtain ⟨ew, een, eend⟩ : ∃ ew een, endS l syb = (ew, een) := ⟨_, _, rfl⟩
        rw [eend] at hx1 hx2
        dsimp only at hx2
        have EYB := Lib.hid eyb
        have EEND := Lib.hid eend
        have HX1 := Lib.hid hx1
        have hne : (ew != 0) = true := by simpa using hx2
        clear eyb eend hx1 hx2
        have hm1 : (0 : Int) < ((m + 1 : Nat) : Int) := by omega
        go_wp2_with fail
        refine (left_g _ _ _ _ _ _ HRD.out (by have := HLL.out; omega)).mono ?_
        rw [← ELA.out]
        rintro e w2 ⟨rfl, hw, hu⟩
        have R2 := Lib.hid hw
        have HB2 := Lib.hid (below_upd HB.out HB.out.size hu (fun k hk => by rw [hk]; exact HRD.out.base))
        clear hw hu
        go_wp2_with fail
        refine (byte_g _ _ _ _ _ _ R2.out (by have := HLL.out; omega)).mono ?_
        rw [EYB.out]
        rintro e w3 ⟨rfl, hw, hu⟩
        have R3 := Lib.hid hw
        have HB3 := Lib.hid (below_upd HB2.out HB2.out.size hu (fun k hk => by rw [hk]; exact HRD.out.base))
        clear hw hu
        go_wp2_with fail
        refine (end_g _ _ _ _ _ _ R3.out (by have := HLL.out; omega)).mono ?_
        rw [EEND.out]
        rintro e w4 ⟨rfl, hu⟩
        have HB4 := Lib.hid (below_upd HB3.out HB3.out.size hu (fun k hk => by rw [hk]; exact HRD.out.base))
        clear hu
        go_wp2_with fail
        simp only [Exit.jump]
        go_ret3
        exact ⟨HB4.out, .inl ⟨_, _, HX1.out, rfl⟩⟩
      have hlz : (0 : Int) < (la : Int) := by omega
      have hgood : s.why = 0 ∧ s.a < l.length ∧ la = l.length - s.a := by
        have e := ELA.out
        unfold leftS at e
        by_cases hw : s.why = 0
        · rw [if_neg (by simpa using hw)] at e
          exact ⟨hw, by omega, e⟩
        · rw [if_pos hw] at e
          exact absurd e hlz0
      have HGOOD := Lib.hid hgood
      obtain ⟨t, s1, et⟩ : ∃ t s1, textS l 4000 s = (t, s1) := ⟨_, _, rfl⟩
      have ET := Lib.hid et
      have HTL := Lib.hid (show t.length ≤ 4000 by have := textS_small l s; rw [et] at this; exact this)
      have hrs : runS l (m + 1) s M P = runS l m (rawS l 32 s1).2 (M ++ [(t, pad32 (rawS l 32 s1).1)]) (P ++ [s.a]) := by
        show (if s.why ≠ 0 then _ else _) = _
        rw [if_neg (by simpa using hgood.1)]
        unfold linkS
        rw [et]
      rw [HRUN.out] at hrs
      have HRS := Lib.hid hrs
      clear et hgood hrs hlz0
      go_wp2_with fail
      refine (left_g _ _ _ _ _ _ HRD.out (by have := HLL.out; omega)).mono ?_
      rw [← ELA.out]
      rintro e w2 ⟨rfl, hw, hu⟩
      have R2 := Lib.hid hw
      have U2 := Lib.hid hu
      clear hw hu
      have hla2 : (la : Int) ≤ 17000000 := by have := HGOOD.out; have := HLL.out; omega
      have EPA := Lib.hid (show (l.length : Int) - (la : Int) = (s.a : Int) by have := HGOOD.out; omega)
      go_wp2_with fail
      refine (left_g _ _ _ _ _ _ R2.out (by have := HLL.out; omega)).mono ?_
      rw [← ELA.out]
      rintro e w3 ⟨rfl, hw, hu⟩
      have R3 := Lib.hid hw
      have hu3 := U2.out.trans hu (fun _ _ h => h)
      have HP3 := Lib.hid (own_upd HP.out hu3 (fun k hk e => by have := (World.ownsRow.lt HP.out k hk).1; have := HQB.out; omega))
      have HO3 := Lib.hid (own_upd HO.out hu3 (fun k hk e => by have := (World.ownsRow.lt HO.out k hk).1; have := HQB.out; omega))
      have HB3 := Lib.hid (below_upd HB.out HB.out.size hu3 (fun k hk => by rw [hk]; exact HRD.out.base))
      have HS3 := Lib.hid (show Bq ≤ w3.heap.size from Nat.le_trans HBS.out hu3.size)
      have HVL := Lib.hid (show ∀ k, vo.ownBlock = some k → k < w3.heap.size from fun k hk => (World.ownsRow.lt HO3.out k hk).2)
      clear hw hu hu3 U2
      go_wp2_with (at_builtin; refine append_any rfl _ _ 22 rfl Bq 3 (.int .i64 0) 1 8 Try.underlying22 infoI rfl (by omega) (by omega) vp i (pvn P) rfl (HP3.out.alloc _) _ 1 _ [.int .i64 ((l.length : Int) - (la : Int))] rfl rfl (RC_newL _ [.int .i64 ((l.length : Int) - (la : Int))] 3) (by intro u hu; simp at hu; rw [hu]; rfl) ?c1 ?c2 ?_)
      case c1 => have := HIL.out; omega
      case c2 => have := HS3.out; simp; omega
      intro v4 w4 ho4 hg4 hat4
      have hu4 : Upd (fun k => vp.ownBlock = some k) w3 w4 := ((Upd.refl _ w3).alloc _).grown hg4 (fun k hk _ => hk)
      have HP4 := Lib.hid (show w4.ownsRow Bq 3 1 v4 (i + 1) (pvn (P ++ [s.a])) by rw [pvn_snoc, ← EPA.out]; exact ho4)
      have HO4 := Lib.hid (own_upd HO3.out hu4 (fun k hk e => HDIS.out k hk e))
      have R4 := Lib.hid (R3.out.upd hu4 (fun e => by have := (World.ownsRow.lt HP3.out _ e).1; have := HQB.out; omega) (fun k hk e => by have := (World.ownsRow.lt HP3.out _ e).1; have := HVB.out k hk; omega))
      have HB4 := Lib.hid (below_upd HB3.out HB3.out.size hu4 (fun k hk => by have := (World.ownsRow.lt HP3.out k hk).1; have := HWB.out; omega))
      have HS4 := Lib.hid (show w3.heap.size ≤ w4.heap.size from hu4.size)
      have HD4 := Lib.hid (show ∀ k, vo.ownBlock = some k → v4.ownBlock ≠ some k from fun k hk e => by
        rcases hat4 with h | h
        · exact HDIS.out k hk (h ▸ e)
        · rw [h] at e
          have h1 := HVL.out k hk
          simp at e
          omega)
      clear ho4 hg4 hat4 hu4 HP3 HO3 HB3 R3 R2
      go_wp2_with fail
      refine (text_g _ _ _ _ _ _ R4.out (by have := HLL.out; omega) 4000 (by omega)).mono ?_
      rw [ET.out]
      dsimp only
      rintro e w5 ⟨rfl, hw, hu⟩
      have R5 := Lib.hid hw
      have HP5 := Lib.hid (own_upd HP4.out hu (fun k hk e => by have := (World.ownsRow.lt HP4.out k hk).1; have := HQB.out; omega))
      have HO5 := Lib.hid (own_upd HO4.out hu (fun k hk e => by have := (World.ownsRow.lt HO4.out k hk).1; have := HQB.out; omega))
      have HB5 := Lib.hid (below_upd HB4.out HB4.out.size hu (fun k hk => by rw [hk]; exact R4.out.base))
      have HS5 := Lib.hid (show Bq ≤ w5.heap.size from Nat.le_trans (Nat.le_trans HS3.out HS4.out) hu.size)
      clear hw hu HP4 HO4 HB4 R4 HS3 HS4 HVL
      go_upto_region 9 with (refine wpList_store_row rfl 92 (.tmp 9) (.tmp 37) rfl w5.heap.size (lk (t, hd0)).toArray rfl (by rfl) 92 _ (heap_alloc_new w5 _) (by kernel_rfl) (by kernel_rfl) (all_oneCell_toArray (lk_one _)) ?_)
      obtain ⟨z, hz⟩ : ∃ z, z = w5.heap.size := ⟨_, rfl⟩
      rw [← hz]
      have hBz : Bq ≤ z := by rw [hz]; exact HS5.out
      generalize hw6 : World.setRow (World.alloc w5 _) z _ = w6
      have hz6 : w6.heap[z]? = some (.cells (lk (t, (hS l s1 0).1 ++ List.replicate (32 - 0) 0)).toArray 92) := by rw [← hw6, hz]; exact setRow_heap _ _ _ _ _ _ (heap_alloc_new w5 _)
      have hb56 : Below w5.heap.size w5 w6 := by rw [← hw6, hz]; exact below_setRow ((Below.refl _ _).alloc (Nat.le_refl _) _) _ _ (Nat.le_refl _)
      have R6 := Lib.hid (R5.out.below hb56)
      have HP6 := Lib.hid (own_below HP5.out hb56)
      have HO6 := Lib.hid (own_below HO5.out hb56)
      have HB6 := Lib.hid (below_below HB5.out HB5.out.size hb56)
      have HZ6 := Lib.hid hz6
      have HBZ := Lib.hid hBz
      have HVZ := Lib.hid (show ∀ k, vo.ownBlock = some k → k ≠ z from fun k hk e => by have := (World.ownsRow.lt HO5.out k hk).2; omega)
      have HPZ2 := Lib.hid (show ∀ k, v4.ownBlock = some k → k ≠ z from fun k hk e => by have := (World.ownsRow.lt HP5.out k hk).2; omega)
      have R5L := Lib.hid R5.out.le
      clear hw6 hz6 hb56 hBz hz R5 HP5 HO5 HB5 HS5
      go_wp2_with fail
      go_loopg [38] 32 (fun k s38 wr => ∃ j : Nat, j ≤ 32 ∧ k = 32 - j ∧ s38 = .int .i64 (j : Int) ∧ RdAt wr w.heap.size q vq l (hS l s1 j).2 ∧ wr.heap[z]? = some (.cells (lk (t, (hS l s1 j).1 ++ List.replicate (32 - j) 0)).toArray 92) ∧ Upd (fun k => k = q ∨ k = z) w6 wr)
      case atStart => exact ⟨0, Nat.zero_le _, by omega, rfl, R6.out, HZ6.out, Upd.refl _ _⟩
      case round =>
        obtain ⟨j, hj, hk, rfl, hrd, hzc, hu⟩ := hrel
        have HK := Lib.hid hk
        have HRJ := Lib.hid hrd
        have HZJ := Lib.hid hzc
        have HUJ := Lib.hid hu
        clear hk hrd hzc hu R6 HZ6
        by_cases hlt : j < 32
        · obtain ⟨y, sy, ey⟩ : ∃ y sy, byteS l (hS l s1 j).2 = (y, sy) := ⟨_, _, rfl⟩
          have hnx : hS l s1 (j + 1) = ((hS l s1 j).1 ++ [y], sy) := by rw [hS, ey]
          have hset := set_head (hS l s1 j).1 j y (hS_length l s1 j) hlt
          have EY := Lib.hid ey
          have HNX := Lib.hid hnx
          have HSET := Lib.hid hset
          have hhl : ((hS l s1 j).1 ++ List.replicate (32 - j) 0).length = 32 := by rw [List.length_append, hS_length, List.length_replicate]; omega
          obtain ⟨hh, ehh⟩ : ∃ hh, hh = (hS l s1 j).1 ++ List.replicate (32 - j) 0 := ⟨_, rfl⟩
          rw [← ehh] at hhl HZJ HSET
          have hol : (lk (t, hh)).length = 33 := lk_length _ hhl
          obtain ⟨ov, hov⟩ : ∃ ov, (lk (t, hh))[1 + j]? = some ov := ⟨_, List.getElem?_eq_getElem (by rw [hol]; omega)⟩
          have HOV := Lib.hid hov
          clear ey hnx hset hhl ehh
          have hj0 : (0 : Int) ≤ (j : Int) := by omega
          have hj1 : (j : Int) < 32 := by omega
          have HLT := Lib.hid hlt
          clear hol hov hlt hj
          go_wp2_with fail
          refine (byte_g _ _ _ _ _ _ HRJ.out (by have := HLL.out; omega)).mono ?_
          rw [EY.out]
          dsimp only
          rintro e w8 ⟨rfl, hw, hu⟩
          have hqz : q ≠ z := by have := HQB.out; have := HBZ.out; omega
          have hz8 : w8.heap[z]? = some (.cells (lk (t, hh)).toArray 92) := (hu.block z (Array.getElem?_eq_some_iff.1 HZJ.out).1 (fun e => hqz e.symm)).trans HZJ.out
          have cz : w8.cell? ⟨z, 1 + j, none⟩ = some ov := by
            rw [cell_of_row w8 z (1 + j) _ _ _ hz8]
            simpa using HOV.out
          have fz := lk_frozen hz8 (1 + j)
          have hwy : IntKind.u8.wrap (un8 y) = un8 y := by have := un8_range y; rw [IntKind.wrap_u8]; omega
          have R8 := Lib.hid hw
          have HZ8 := Lib.hid hz8
          have HU8 := Lib.hid (show Upd (fun k => k = q ∨ k = z) w6 w8 from HUJ.out.trans hu (fun _ _ h => .inl h))
          have HQZ := Lib.hid hqz
          clear hw hu hqz hz8
          go_wp2_with fail
          go_roundg (32 - (j + 1))
          case measure => have := HK.out; have := HLT.out; omega
          case rel =>
            have hst : Upd (fun k => k = z) w8 (w8.setCell ⟨z, 1 + j, none⟩ (.int .u8 (un8 y))) := (Upd.refl (fun k => k = z) w8).setCell (fun _ => rfl) _
            refine ⟨j + 1, HLT.out, rfl, by go_num, ?_, ?_, HU8.out.trans hst (fun _ _ h => .inr h)⟩
            · rw [HNX.out]
              exact R8.out.upd hst HQZ.out (fun k hk e => by have := HVB.out k hk; have := HBZ.out; omega)
            · rw [setCell_at HZ8.out, List.setIfInBounds_toArray, lk_set, HSET.out, HNX.out]
        · obtain rfl : j = 32 := by omega
          have hhl := hS_length l s1 32
          have HRH := Lib.hid (run_hS l m s1 t M (P ++ [s.a]) (by have := R5L.out; exact this))
          obtain ⟨h, sh, eh⟩ : ∃ h sh, hS l s1 32 = (h, sh) := ⟨_, _, rfl⟩
          rw [eh] at hhl HZJ HRJ HRH
          dsimp only at hhl
          have hzj := HZJ.out
          rw [show (h, sh).1 ++ List.replicate (32 - 32) (0 : UInt8) = h by simp] at hzj
          have HZJ := Lib.hid hzj
          have R9 := Lib.hid (show RdAt wr w.heap.size q vq l sh from HRJ.out)
          have HRH2 := Lib.hid (show runS l m sh (M ++ [(t, h)]) (P ++ [s.a]) = R from HRH.out.trans HRS.out.symm)
          have HHL := Lib.hid hhl
          clear hzj eh hhl
          have hlkl := lk_length (t, h) HHL.out
          have HPw := Lib.hid (own_upd HP6.out HUJ.out (fun k hk e => e.elim (fun e => by have := (World.ownsRow.lt HP6.out k hk).1; have := HQB.out; omega) (HPZ2.out k hk)))
          have HOw := Lib.hid (own_upd HO6.out HUJ.out (fun k hk e => e.elim (fun e => by have := (World.ownsRow.lt HO6.out k hk).1; have := HQB.out; omega) (HVZ.out k hk)))
          have HBw := Lib.hid (below_upd HB6.out HB6.out.size HUJ.out (fun k hk => by
            rcases hk with e | e
            · rw [e]; exact HRD.out.base
            · rw [e]; exact Nat.le_trans HWB.out HBZ.out))
          obtain ⟨lc, elc⟩ : ∃ lc, lc = (lk (t, h)).toArray := ⟨_, rfl⟩
          have hil : (Try.prog.info? 92).map (·.size) = some lc.size := by rw [elc, List.size_toArray, hlkl]; exact info33
          rw [← elc] at HZJ
          have HF1 := Lib.hid (show Try.prog.builtSlice 92 1 [(0, .agg lc)] = some lc by rw [elc]; exact built_one t h HHL.out)
          have HIL2 := Lib.hid hil
          have ELC := Lib.hid elc
          have HLK := Lib.hid hlkl
          have HSw := Lib.hid (show Bq ≤ wr.heap.size by have := (Array.getElem?_eq_some_iff.1 HZJ.out).1; have := HBZ.out; omega)
          have HPSw := Lib.hid (show ∀ k, v4.ownBlock = some k → k < wr.heap.size from fun k hk => (World.ownsRow.lt HPw.out k hk).2)
          clear hlt hj HK HRJ HUJ HP6 HO6 HB6 hlkl elc hil
          go_upto_region 14 with fail
          refine wp_region_lit ?_
          refine Great.wpList_readTo rfl _ rfl vo rfl ?_
          refine wpList_load_row rfl 92 (.tmp 9) rfl z rfl 92 lc (0, 0) _ HZJ.out Try.underlying92 rfl HIL2.out ?_
          refine Great.wpList_buildSliceTo rfl 71 92 1 _ rfl wr.heap.size rfl (some 50) rfl Try.underlying71 lc (by simp only [List.map_toArray, List.map_cons, List.map_nil]; exact HF1.out) ?_
          refine append_any rfl (.tmp 48) (.tmp 50) 71 rfl Bq 92 (.agg (lk ([], hd0)).toArray) 33 48 Try.underlying71 infoLk (by kernel_rfl) (by omega) (by omega) vo i (lv M) rfl (HOw.out.alloc _) (some ⟨wr.heap.size, 0, none⟩) 1 1 (lk (t, h)) rfl ?c1 ?c2 (lk_one _) ?c3 ?c4 ?_
          case c1 => rw [HLK.out]
          case c2 => rw [ELC.out]; exact RC_newL wr (lk (t, h)) _
          case c3 => have := HIL.out; omega
          case c4 => have := HSw.out; simp; omega
          intro v9 w9 ho9 hg9 hat9
          have hu9 : Upd (fun k => vo.ownBlock = some k) wr w9 := ((Upd.refl _ wr).alloc _).grown hg9 (fun k hk _ => hk)
          have HO9 := Lib.hid (show w9.ownsRow Bq 92 33 v9 (i + 1) (lv (M ++ [(t, h)])) by rw [lv_snoc]; exact ho9)
          have HP9 := Lib.hid (own_upd HPw.out hu9 (fun k hk e => HD4.out k e hk))
          have R10 := Lib.hid (R9.out.upd hu9 (fun e => by have := (World.ownsRow.lt HOw.out _ e).1; have := HQB.out; omega) (fun k hk e => by have := (World.ownsRow.lt HOw.out _ e).1; have := HVB.out k hk; omega))
          have HB9 := Lib.hid (below_upd HBw.out HBw.out.size hu9 (fun k hk => by have := (World.ownsRow.lt HOw.out k hk).1; have := HWB.out; omega))
          have HS9 := Lib.hid (show Bq ≤ w9.heap.size from Nat.le_trans HSw.out hu9.size)
          have HD9 := Lib.hid (show ∀ k, v9.ownBlock = some k → v4.ownBlock ≠ some k from fun k hk e => by
            rcases hat9 with h | h
            · exact HD4.out k (h ▸ hk) e
            · rw [h] at hk
              have h1 := HPSw.out k e
              simp at hk
              omega)
          clear ho9 hg9 hat9 hu9
          go_wp2_with fail
          go_step3
          have hML : (M ++ [(t, h)]).length = i + 1 := by rw [List.length_append, ← EI.out]; rfl
          refine ⟨rfl, ⟨m, q, Bq, sh, M ++ [(t, h)], P ++ [s.a], vq, v9, v4, _, rfl, rfl, by rw [hML]; have := HIL.out; omega, R10.out, by rw [hML]; exact HO9.out, by rw [hML]; exact HP9.out, HQB.out, HVB.out, HWB.out, HD9.out, HS9.out, HB9.out, HRH2.out, ?_, ?_, by rw [hML, List.length_append, HPLN.out]; rfl⟩, by simp [intOf]⟩
          · intro x hx
            rcases List.mem_append.1 hx with hx | hx
            · exact HMH.out x hx
            · rw [List.mem_singleton.1 hx]; exact HHL.out
          · intro x hx
            rcases List.mem_append.1 hx with hx | hx
            · exact HMT.out x hx
            · rw [List.mem_singleton.1 hx]; exact HTL.out

end Go.Proofs.Ytjakhemolecbnaa
end
