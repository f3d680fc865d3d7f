/-
  The walks of wire's reader in any state: what is there, what is short, and behind a refusal.
-/
import Derived.Test.YthlbmjjodjepjaaReadBad
set_option linter.unusedVariables false
set_option linter.unusedSimpArgs false
namespace Go.Proofs.Ythlbmjjodjepjaa
open Go.RowKit

/-- A reader's state: the place; the refusal (0: none) and its place. -/
structure Rs where
  a : Nat
  why : Int
  en : Int
def rawS (l : List UInt8) (n : Nat) (s : Rs) : List UInt8 × Rs :=
  if s.why ≠ 0 then ([], s) else if l.length < s.a + n then ([], ⟨s.a, 10, l.length⟩) else ((l.drop s.a).take n, ⟨s.a + n, s.why, s.en⟩)
def fourS (l : List UInt8) (s : Rs) : Nat × Rs := (numOf (rawS l 4 s).1, (rawS l 4 s).2)
def byteS (l : List UInt8) (s : Rs) : UInt8 × Rs := ((rawS l 1 s).1.headD 0, (rawS l 1 s).2)
def countS (l : List UInt8) (most : Nat) (s : Rs) : Nat × Rs := if most < (fourS l s).1 then (0, ⟨(fourS l s).2.a, 3, s.a⟩) else fourS l s
def textS (l : List UInt8) (most : Nat) (s : Rs) : List UInt8 × Rs := rawS l (countS l most s).1 (countS l most s).2
def leftS (l : List UInt8) (s : Rs) : Nat := if s.why ≠ 0 then 0 else l.length - s.a
def endS (l : List UInt8) (s : Rs) : Int × Int := if s.why ≠ 0 then (s.why, s.en) else if s.a < l.length then (11, s.a) else (0, 0)
theorem rawS_length (l : List UInt8) (n : Nat) (s : Rs) : (rawS l n s).1.length ≤ n := by
  unfold rawS
  split
  · simp
  · split
    · simp
    · simp; omega
theorem fourS_lt (l : List UInt8) (s : Rs) : (fourS l s).1 < 4294967296 := by
  have h1 := numOf_lt (rawS l 4 s).1
  have h2 : 256 ^ (rawS l 4 s).1.length ≤ 256 ^ 4 := Nat.pow_le_pow_right (by omega) (rawS_length l 4 s)
  have h3 : 256 ^ 4 = 4294967296 := by decide
  show numOf _ < _
  omega
theorem rawS_bad {l : List UInt8} {n : Nat} {s : Rs} (h : s.why ≠ 0) : rawS l n s = ([], s) := by unfold rawS; rw [if_pos h]
theorem fourS_bad {l : List UInt8} {s : Rs} (h : s.why ≠ 0) : fourS l s = (0, s) := by unfold fourS; rw [rawS_bad h]; rfl
theorem countS_bad {l : List UInt8} {most : Nat} {s : Rs} (h : s.why ≠ 0) : countS l most s = (0, s) := by unfold countS; rw [fourS_bad h]; simp
theorem countS_le (l : List UInt8) (most : Nat) (s : Rs) : (countS l most s).1 ≤ most := by
  unfold countS
  split
  · simp
  · omega

structure RdAt (w : World) (B p : Nat) (v : Value) (l : List UInt8) (s : Rs) : Prop where
  at_ : w.heap[p]? = some (.cells #[v, .int .i64 (s.a : Int), .int .i64 s.why, .int .i64 s.en] 125 (0, 0))
  own : w.ownsRow B 5 1 v l.length (bv l)
  ne : v.ownBlock ≠ some p
  base : B ≤ p
  le : s.a ≤ l.length
  z : s.why = 0 → s.en = 0
namespace RdAt
variable {w w' : World} {B p : Nat} {v : Value} {l : List UInt8} {s : Rs}
theorem lt (h : RdAt w B p v l s) : p < w.heap.size := (Array.getElem?_eq_some_iff.1 h.at_).1
theorem c0 (h : RdAt w B p v l s) : w.cell? ⟨p, 0, none⟩ = some v := by rw [cell_of_row w p 0 _ _ _ h.at_]; rfl
theorem c1 (h : RdAt w B p v l s) : w.cell? ⟨p, 1, none⟩ = some (.int .i64 (s.a : Int)) := by rw [cell_of_row w p 1 _ _ _ h.at_]; rfl
theorem c2 (h : RdAt w B p v l s) : w.cell? ⟨p, 2, none⟩ = some (.int .i64 s.why) := by rw [cell_of_row w p 2 _ _ _ h.at_]; rfl
theorem c3 (h : RdAt w B p v l s) : w.cell? ⟨p, 3, none⟩ = some (.int .i64 s.en) := by rw [cell_of_row w p 3 _ _ _ h.at_]; rfl
theorem f0 (h : RdAt w B p v l s) (j : Nat) : w.frozen? ⟨p, j, none⟩ = false := frozen_of_row w p j _ _ h.at_
theorem upd {F : Nat → Prop} (h : RdAt w B p v l s) (u : Upd F w w') (hp : ¬ F p) (hv : ∀ k, v.ownBlock = some k → ¬ F k) : RdAt w' B p v l s :=
  ⟨(u.block p h.lt hp).trans h.at_, own_upd h.own u hv, h.ne, h.base, h.le, h.z⟩
theorem below (h : RdAt w B p v l s) (hb : Below w.heap.size w w') : RdAt w' B p v l s := h.upd (Upd.of_below (F := fun _ => False) hb) id (fun _ _ => id)
theorem drew (h : RdAt w B p v l s) : RdAt w.drew B p v l s := ⟨h.at_, h.own, h.ne, h.base, h.le, h.z⟩
theorem good (h : RdAt w B p v l s) (h0 : s.why = 0) : ReaderAt w B p v l s.a := by
  have h1 := h.at_
  rw [h0, h.z h0] at h1
  exact ⟨h1, h.own, h.ne, h.base⟩
theorem of_good {a : Nat} (h : ReaderAt w B p v l a) (ha : a ≤ l.length) : RdAt w B p v l ⟨a, 0, 0⟩ := ⟨h.at_, h.own, h.ne, h.base, ha, fun _ => rfl⟩
theorem of_bad {a : Nat} {why en : Int} (h : RdAt w B p v l s) (u : Upd (fun k => k = p) w w') (hb : BadAt w' p v a why en) (hw : why ≠ 0) (ha : a ≤ l.length) : RdAt w' B p v l ⟨a, why, en⟩ :=
  ⟨hb, own_upd h.own u (fun k hk e => h.ne (e ▸ hk)), h.ne, h.base, ha, fun e => absurd e hw⟩
theorem goes {w0 : World} (h : RdAt w B p v l s) (hb : Below B w0 w) (hB : B ≤ w.heap.size) (u : Upd (fun k => k = p) w w') : Below B w0 w' := below_upd hb hB u (fun k hk => by rw [hk]; exact h.base)
end RdAt

set_option maxHeartbeats 1000000 in
theorem takeRefused_any (w : World) (B p : Nat) (v : Value) (l : List UInt8) (s : Rs) (h : RdAt w B p v l s) (n : Int) (h0 : s.why ≠ 0) :
    Calls Try.prog 87 #[.pointer (some ⟨p, 0, none⟩), .int .i64 n] w fun e w' => e = .returned (.slice none 0 0) ∧ w = w' := by
  have k2 := h.c2
  have hne : (s.why != 0) = true := by simpa using h0
  clear h
  go_enter Try.func87, Try.ntmps87
  go_wp2_with fail
  go_ret
  exact ⟨rfl, rfl⟩

set_option maxHeartbeats 4000000 in
theorem takeZero_any (w : World) (B p : Nat) (v : Value) (l : List UInt8) (h : ReaderAt w B p v l l.length) (hl : l.length ≤ 100000000) :
    Calls Try.prog 87 #[.pointer (some ⟨p, 0, none⟩), .int .i64 0] w fun e w' => ∃ A c, e = .returned (.slice A 0 c) ∧ ReaderAt w' B p v l l.length ∧ Upd (fun k => k = p) w w' := by
  have k0 := h.c0
  have k1 := h.c1
  have k2 := h.c2
  have f1 := h.f0 1
  have hlt := h.lt
  have H := Lib.hid h
  have hfin : ∀ w' : World, w' = (w.setCell ⟨p, 1, none⟩ (.int .i64 (l.length : Int))).drew.drew → ReaderAt w' B p v l l.length ∧ Upd (fun k => k = p) w w' := by
    rintro w' rfl
    have hb1 : Upd (fun k => k = p) w (w.setCell ⟨p, 1, none⟩ (.int .i64 (l.length : Int))) := (Upd.refl (fun k => k = p) w).setCell (fun _ => rfl) _
    exact ⟨⟨(setCell_at h.at_ _).trans rfl, own_setCell h.own h.ne _, h.ne, h.base⟩, hb1.drew.drew⟩
  have HFIN := Lib.hid hfin
  have hw1 : IntKind.i64.wrap ((l.length : Int) - (l.length : Int)) = 0 := by rw [IntKind.wrap_i64]; omega
  have hw3 : IntKind.i64.wrap (l.length : Int) = (l.length : Int) := by rw [IntKind.wrap_i64]; omega
  rcases h.own.2 with ⟨rfl, hn0⟩ | ⟨g, cap, cur, rfl, hb, hg, hnc, _⟩
  · obtain rfl := List.eq_nil_of_length_eq_zero hn0
    simp only [List.length_nil] at k1 hw1 hw3 HFIN
    clear h hfin hn0 hw3 hw1
    go_enter Try.func87, Try.ntmps87
    go_wp2_with fail
    go_region
    go_wp2_with fail
    trace_state
    go_region
    go_wp2_with fail
    go_ret
    exact ⟨_, _, rfl, HFIN.out _ rfl⟩
  · clear h hfin
    have hl0 : (0 : Int) ≤ (l.length : Int) := by omega
    by_cases hc : cap = l.length
    · subst hc
      go_enter Try.func87, Try.ntmps87
      go_wp2_with fail
      go_region
      go_wp2_with fail
      go_region
      go_wp2_with fail
      go_ret
      exact ⟨_, _, rfl, HFIN.out _ rfl⟩
    · have hcl : (l.length : Int) ≤ (cap : Int) := by omega
      go_enter Try.func87, Try.ntmps87
      go_wp2_with fail
      go_region
      go_wp2_with fail
      go_region
      go_wp2_with fail
      go_ret
      exact ⟨_, _, rfl, HFIN.out _ rfl⟩

theorem take_g (w : World) (B p : Nat) (v : Value) (l : List UInt8) (s : Rs) (h : RdAt w B p v l s) (n : Nat) (hn : n ≤ 100000) (hl : l.length ≤ 100000000) :
    Calls Try.prog 87 #[.pointer (some ⟨p, 0, none⟩), .int .i64 (n : Int)] w fun e w' => ∃ A c, e = .returned (.slice A (rawS l n s).1.length c) ∧ RB w' A (rawS l n s).1 ∧ RdAt w' B p v l (rawS l n s).2 ∧ Upd (fun k => k = p) w w' := by
  unfold rawS
  by_cases h0 : s.why = 0
  · rw [if_neg (by simpa using h0)]
    by_cases h1 : l.length < s.a + n
    · rw [if_pos h1]
      refine (takeShort_any w B p v l s.a (h.good h0) n h.le h1 hl hn).mono ?_
      rintro e w' ⟨rfl, hb, hu⟩
      exact ⟨none, 0, rfl, RB.nil _ _, h.of_bad hu hb (by omega) h.le, hu⟩
    · rw [if_neg h1]
      have e1 : ((l.drop s.a).take n).length = n := by rw [List.length_take, List.length_drop]; omega
      by_cases h2 : s.a < l.length
      · refine (take3_any w B p v l s.a (h.good h0) n h2 (by omega) hl).mono ?_
        rintro e w' ⟨A, c, rfl, hr, ht, hu⟩
        have := RdAt.of_good ht (by omega)
        rw [h0, h.z h0]
        exact ⟨A, c, by rw [e1], hr, this, hu⟩
      · have ha : s.a = l.length := by have := h.le; omega
        obtain rfl : n = 0 := by omega
        have hg := h.good h0
        rw [ha] at hg
        refine (takeZero_any w B p v l hg hl).mono ?_
        rintro e w' ⟨A, c, rfl, ht, hu⟩
        have := RdAt.of_good ht (Nat.le_refl _)
        rw [h0, h.z h0, ha]
        exact ⟨A, c, by simp, by simp; exact RB.nil _ _, this, hu⟩
  · rw [if_pos h0]
    refine (takeRefused_any w B p v l s h (n : Int) h0).mono ?_
    rintro e w' ⟨rfl, rfl⟩
    exact ⟨none, 0, rfl, RB.nil _ _, h, Upd.refl _ _⟩

set_option maxHeartbeats 4000000 in
theorem get_g (w : World) (B p : Nat) (v : Value) (l : List UInt8) (s : Rs) (h : RdAt w B p v l s) (n : Nat) (hn8 : n ≤ 7) (hl : l.length ≤ 100000000) :
    Calls Try.prog 88 #[.pointer (some ⟨p, 0, none⟩), .int .i64 (n : Int)] w fun e w' => e = .returned (.int .u64 (numOf (rawS l n s).1 : Nat)) ∧ RdAt w' B p v l (rawS l n s).2 ∧ Upd (fun k => k = p) w w' := by
  go_enter Try.func88, Try.ntmps88
  have hx := rawS_length l n s
  obtain ⟨x, ex⟩ : ∃ x, x = (rawS l n s).1 := ⟨_, rfl⟩
  obtain ⟨m, em⟩ : ∃ m, m = x.length := ⟨_, rfl⟩
  rw [← ex] at hx ⊢
  rw [← em] at hx
  obtain ⟨s2, es⟩ : ∃ s2, s2 = (rawS l n s).2 := ⟨_, rfl⟩
  rw [← es]
  have EM := Lib.hid em
  have HM7 : m ≤ 7 := by omega
  go_wp2_with fail
  refine wp_scope_loop 0 (fun a' w' => ∃ (i c y : Nat) (A : Option Addr) (u8 u9 u10 u11 u12 u13 u14 u15 u16 u17 u18 u19 u20 u21 u22 u23 u24 u25 : Value),
    a' = { tmps := #[.pointer (some ⟨p, 0, none⟩), .int .i64 (n : Int), undef, undef, .int .u64 0, .int .u64 (y : Int), .slice A m c, .int .i64 (i : Int), u8, u9, u10, u11, u12, u13, u14, u15, u16, u17, u18, u19, u20, u21, u22, u23, u24, u25], defers := [] } ∧
    y = numOf (x.take i) ∧ i ≤ m ∧ RB w' A x ∧ RdAt w' B p v l s2 ∧ Upd (fun k => k = p) w w') (fun a' _ => ((m : Int) - intOf (a'.tmps.getD 7 undef)).toNat) rfl ?pass ?first
  case first =>
    intro hrest
    go_wp2_with fail
    refine (take_g w B p v l s h n (by omega) hl).mono ?_
    rw [← ex, ← es, ← em]
    rintro e w1 ⟨A, c, rfl, hr, hw, hb⟩
    have H := Lib.hid hw
    have HR := Lib.hid hr
    have HB := Lib.hid hb
    clear h hw hr hb ex es em
    go_wp2_with fail
    go_step3
    rename_i hK
    refine hK _ _ (hrest _ _ ?_)
    exact ⟨0, _, 0, _, _, _, _, _, _, _, _, _, _, _, _, _, _, _, _, _, _, _, rfl, by simp [numOf], by omega, HR.out, H.out, HB.out⟩
  case pass =>
    rintro a' w' ⟨i, c, y, A, u8, u9, u10, u11, u12, u13, u14, u15, u16, u17, u18, u19, u20, u21, u22, u23, u24, u25, rfl, hy, hi, hr, hw, hb⟩
    have H := Lib.hid hw
    have HR := Lib.hid hr
    have HB := Lib.hid hb
    clear h hw hr hb ex es em
    by_cases hlt : i < m
    · have hix : i < x.length := by rw [← EM.out]; exact hlt
      obtain ⟨b, o, rfl, hc⟩ := HR.out.parts (by omega)
      have k1 := hc i hix
      have hs : numOf (x.take (i + 1)) = numOf (x.take i) * 256 + x[i].toNat := by
        rw [List.take_succ_eq_append_getElem (by omega), numOf_snoc]
      have hb1 : numOf (x.take i) < 72057594037927936 := by
        have h1 := numOf_lt (x.take i)
        have h2 : 256 ^ (x.take i).length ≤ 256 ^ 7 := Nat.pow_le_pow_right (by omega) (by rw [List.length_take]; omega)
        have h3 : 256 ^ 7 = 72057594037927936 := by decide
        omega
      rw [← hy] at hs hb1
      have ho := or64_low y x[i] hb1
      rw [← hs, Int.natCast_mul] at ho
      have HS := Lib.hid hs
      obtain ⟨y1, ey1⟩ : ∃ y1, y1 = numOf (x.take (i + 1)) := ⟨_, rfl⟩
      rw [← ey1] at ho
      have EY := Lib.hid ey1
      have hwb := un8_range x[i]
      have how : IntKind.u64.wrap (un8 x[i]) = un8 x[i] := by rw [IntKind.wrap_u64]; omega
      generalize x[i] = bb at *
      have hw1 : IntKind.u64.wrap ((y : Int) * 256) = (y : Int) * 256 := by rw [IntKind.wrap_u64]; omega
      clear hc hs hy hb1 ey1 hwb hix
      have ho' : bits .or .u64 ((y : Int) * 256) (un8 bb) = (y1 : Int) := ho
      clear ho
      go_wp2_with fail
      go_step3
      refine ⟨rfl, ⟨i + 1, _, y1, _, _, _, _, _, _, _, _, _, _, _, _, _, _, _, _, _, _, _, rfl, EY.out, by omega, HR.out, H.out, HB.out⟩, by simp [intOf]; omega⟩
    · obtain rfl : i = m := by omega
      rw [show x.take i = x from List.take_of_length_le (by rw [← EM.out]; exact Nat.le_refl _)] at hy
      have HYY := Lib.hid hy
      clear hy
      go_wp2_with fail
      simp only [Exit.jump]
      go_ret
      exact ⟨by rw [← HYY.out]; rfl, H.out, HB.out⟩

set_option maxHeartbeats 1000000 in
theorem four_g (w : World) (B p : Nat) (v : Value) (l : List UInt8) (s : Rs) (h : RdAt w B p v l s) (hl : l.length ≤ 100000000) :
    Calls Try.prog 85 #[.pointer (some ⟨p, 0, none⟩)] w fun e w' => e = .returned (.int .i64 ((fourS l s).1 : Nat)) ∧ RdAt w' B p v l (fourS l s).2 ∧ Upd (fun k => k = p) w w' := by
  have hlt := fourS_lt l s
  obtain ⟨y, ey⟩ : ∃ y, y = (fourS l s).1 := ⟨_, rfl⟩
  rw [← ey] at hlt ⊢
  go_enter Try.func85, Try.ntmps85
  go_wp2_with fail
  refine (get_g w B p v l s h 4 (by omega) hl).mono ?_
  rw [show numOf (rawS l 4 s).1 = y from ey.symm]
  rintro e w1 ⟨rfl, hw, hb⟩
  have H := Lib.hid hw
  have HB := Lib.hid hb
  clear hw hb h ey
  have hw : IntKind.i64.wrap (y : Int) = (y : Int) := by rw [IntKind.wrap_i64]; omega
  clear hlt
  go_wp2_with fail
  go_ret
  exact ⟨rfl, H.out, HB.out⟩

theorem num_one : ∀ x : List UInt8, x.length ≤ 1 → ((numOf x : Nat) : Int) = un8 (x.headD 0)
  | [], _ => rfl
  | [y], _ => by simp [numOf, un8]
  | _ :: _ :: _, h => by simp at h
set_option maxHeartbeats 1000000 in
theorem byte_g (w : World) (B p : Nat) (v : Value) (l : List UInt8) (s : Rs) (h : RdAt w B p v l s) (hl : l.length ≤ 100000000) :
    Calls Try.prog 74 #[.pointer (some ⟨p, 0, none⟩)] w fun e w' => e = .returned (.int .i64 (un8 (byteS l s).1)) ∧ RdAt w' B p v l (byteS l s).2 ∧ Upd (fun k => k = p) w w' := by
  have hx := un8_range (byteS l s).1
  have E2 := Lib.hid (num_one (rawS l 1 s).1 (rawS_length l 1 s))
  obtain ⟨x, ex⟩ : ∃ x, x = (byteS l s).1 := ⟨_, rfl⟩
  rw [← ex] at hx ⊢
  go_enter Try.func74, Try.ntmps74
  go_wp2_with fail
  refine (get_g w B p v l s h 1 (by omega) hl).mono ?_
  rw [E2.out, show (rawS l 1 s).1.headD 0 = x from ex.symm]
  rintro e w1 ⟨rfl, hw, hb⟩
  have H := Lib.hid hw
  have HB := Lib.hid hb
  clear hw hb h ex
  have hw : IntKind.i64.wrap (un8 x) = un8 x := by rw [IntKind.wrap_i64]; omega
  clear hx
  go_wp2_with fail
  go_ret
  exact ⟨rfl, H.out, HB.out⟩

set_option maxHeartbeats 1000000 in
theorem count_g (w : World) (B p : Nat) (v : Value) (l : List UInt8) (s : Rs) (h : RdAt w B p v l s) (hl : l.length ≤ 100000000) (most : Nat) (hmo : most ≤ 100000) :
    Calls Try.prog 71 #[.pointer (some ⟨p, 0, none⟩), .int .i64 (most : Int)] w fun e w' => e = .returned (.int .i64 ((countS l most s).1 : Nat)) ∧ RdAt w' B p v l (countS l most s).2 ∧ Upd (fun k => k = p) w w' := by
  have H := Lib.hid h
  have k1 := h.c1
  have hbad : s.why ≠ 0 → (fourS l s).1 = 0 := fun hw => by rw [fourS_bad hw]
  have hkeep : (fourS l s).1 ≠ 0 → (fourS l s).2.why = 0 := fun hm => by
    by_cases hw : s.why = 0
    · unfold fourS rawS at hm ⊢
      rw [if_neg (by simpa using hw)] at hm ⊢
      split
      · rename_i h3
        rw [if_pos h3] at hm
        simp [numOf] at hm
      · exact hw
    · exact absurd (hbad hw) hm
  have hz : (fourS l s).2.why ≠ 0 → (fourS l s).1 = 0 := fun hw => Classical.byContradiction fun hm => hw (hkeep hm)
  unfold countS
  obtain ⟨m, em⟩ : ∃ m, m = (fourS l s).1 := ⟨_, rfl⟩
  obtain ⟨s2, es⟩ : ∃ s2, s2 = (fourS l s).2 := ⟨_, rfl⟩
  have E : fourS l s = (m, s2) := by rw [em, es]
  rw [E] at hkeep hz ⊢
  have HZ := Lib.hid hz
  have HKP := Lib.hid hkeep
  have EM := Lib.hid em
  have ES := Lib.hid es
  dsimp only
  clear h hbad hkeep hz em es E
  have hmx : max (most : Int) 0 = (most : Int) := by omega
  by_cases hgt : most < m
  · rw [if_pos hgt]
    go_enter Try.func71, Try.ntmps71
    go_wp2_with fail
    refine (four_g w B p v l s H.out hl).mono ?_
    rw [← EM.out, ← ES.out]
    rintro e w1 ⟨rfl, hw, hb⟩
    have H1 := Lib.hid hw
    have HB := Lib.hid hb
    clear hw hb
    have hgt' : (most : Int) < (m : Int) := by omega
    go_wp2_with fail
    have h0 := HKP.out (by omega)
    refine (refuse_any w1 B p v l s2.a (H1.out.good h0) 3 (s.a : Int)).mono ?_
    rintro e w2 ⟨rfl, hw, hu⟩
    have k2 := hw.c2
    have H2 := Lib.hid (H1.out.of_bad hu hw (by omega) H1.out.le)
    have HB2 := Lib.hid (HB.out.trans hu (fun _ _ h => h))
    clear hw hu h0
    go_wp2_with fail
    go_ret
    exact ⟨rfl, H2.out, HB2.out⟩
  · rw [if_neg hgt]
    by_cases h0 : s2.why = 0
    · go_enter Try.func71, Try.ntmps71
      go_wp2_with fail
      refine (four_g w B p v l s H.out hl).mono ?_
      rw [← EM.out, ← ES.out]
      rintro e w1 ⟨rfl, hw, hb⟩
      have k2 := hw.c2
      have H1 := Lib.hid hw
      have HB := Lib.hid hb
      clear hw hb
      have hgt' : ¬ ((most : Int) < (m : Int)) := by omega
      go_wp2_with fail
      go_ret
      exact ⟨rfl, H1.out, HB.out⟩
    · have hne : (s2.why != 0) = true := by simpa using h0
      go_enter Try.func71, Try.ntmps71
      go_wp2_with fail
      refine (four_g w B p v l s H.out hl).mono ?_
      rw [← EM.out, ← ES.out]
      rintro e w1 ⟨rfl, hw, hb⟩
      have k2 := hw.c2
      have H1 := Lib.hid hw
      have HB := Lib.hid hb
      clear hw hb
      have hgt' : ¬ ((most : Int) < (m : Int)) := by omega
      go_wp2_with fail
      go_ret
      exact ⟨by rw [show m = 0 from HZ.out h0]; rfl, H1.out, HB.out⟩

set_option maxHeartbeats 1000000 in
theorem text_g (w : World) (B p : Nat) (v : Value) (l : List UInt8) (s : Rs) (h : RdAt w B p v l s) (hl : l.length ≤ 100000000) (most : Nat) (hmo : most ≤ 100000) :
    Calls Try.prog 73 #[.pointer (some ⟨p, 0, none⟩), .int .i64 (most : Int)] w fun e w' => e = .returned (.string (strB (textS l most s).1)) ∧ RdAt w' B p v l (textS l most s).2 ∧ Upd (fun k => k = p) w w' := by
  have H := Lib.hid h
  clear h
  have hcl := countS_le l most s
  unfold textS
  obtain ⟨m, em⟩ : ∃ m, m = (countS l most s).1 := ⟨_, rfl⟩
  obtain ⟨s2, es⟩ : ∃ s2, s2 = (countS l most s).2 := ⟨_, rfl⟩
  rw [← em] at hcl
  rw [← em, ← es]
  have EM := Lib.hid em
  have ES := Lib.hid es
  have HCL := Lib.hid hcl
  obtain ⟨x, ex⟩ : ∃ x, x = (rawS l m s2).1 := ⟨_, rfl⟩
  rw [← ex]
  have EX := Lib.hid ex
  clear em es hcl ex
  go_enter Try.func73, Try.ntmps73
  go_wp2_with fail
  refine (count_g w B p v l s H.out hl most hmo).mono ?_
  rw [← EM.out, ← ES.out]
  rintro e w1 ⟨rfl, hw, hb⟩
  have H1 := Lib.hid hw
  have HB1 := Lib.hid hb
  clear hw hb
  go_wp2_with fail
  refine (take_g w1 B p v l s2 H1.out m (by have := HCL.out; omega) hl).mono ?_
  rw [← EX.out]
  rintro e w2 ⟨A, c, rfl, hr, hw, hb⟩
  have hst := run_string_RB (P := Try.prog) w2 37 9 5 Try.underlying37 Try.underlying5 Try.underlying9 A x.length c x rfl hr
  have H2 := Lib.hid hw
  have HB2 := Lib.hid (HB1.out.trans hb (fun _ _ h => h))
  clear hw hb hr
  go_wp2_with fail
  go_ret
  exact ⟨rfl, H2.out, HB2.out⟩

set_option maxHeartbeats 1000000 in
theorem left_g (w : World) (B p : Nat) (v : Value) (l : List UInt8) (s : Rs) (h : RdAt w B p v l s) (hl : l.length ≤ 100000000) :
    Calls Try.prog 72 #[.pointer (some ⟨p, 0, none⟩)] w fun e w' => e = .returned (.int .i64 ((leftS l s : Nat) : Int)) ∧ RdAt w' B p v l s ∧ Upd (fun k => k = p) w w' := by
  unfold leftS
  by_cases h0 : s.why = 0
  · rw [if_neg (by simpa using h0)]
    refine (readerLeft2_any w B p v l s.a (h.good h0) h.le hl).mono ?_
    rintro e w' ⟨rfl, hr, hu⟩
    refine ⟨rfl, ?_, hu⟩
    have := RdAt.of_good hr h.le
    have e2 : s = ⟨s.a, 0, 0⟩ := by
      have h2 := h.z h0
      cases s
      simp only at h0 h2
      subst h0 h2
      rfl
    rw [e2]
    exact this
  · rw [if_pos h0]
    have k2 := h.c2
    have H := Lib.hid h
    have hne : (s.why != 0) = true := by simpa using h0
    clear h
    go_enter Try.func72, Try.ntmps72
    go_wp2_with fail
    go_ret
    exact ⟨rfl, H.out, Upd.refl _ _⟩

set_option maxHeartbeats 1000000 in
theorem end_g (w : World) (B p : Nat) (v : Value) (l : List UInt8) (s : Rs) (h : RdAt w B p v l s) (hl : l.length ≤ 100000000) :
    Calls Try.prog 75 #[.pointer (some ⟨p, 0, none⟩)] w fun e w' => e = .returned (.tuple #[.int .i64 (endS l s).1, .int .i64 (endS l s).2]) ∧ Upd (fun k => k = p) w w' := by
  unfold endS
  by_cases h0 : s.why = 0
  · rw [if_neg (by simpa using h0)]
    by_cases h1 : s.a < l.length
    · rw [if_pos h1]
      obtain ⟨A, c, rfl, _⟩ := own_slice h.own
      have g := h.good h0
      have k0 := g.c0
      have k1 := g.c1
      have k2 := g.c2
      have H := Lib.hid h
      clear h g
      have hlt : ((s.a : Int) < (l.length : Int)) := by omega
      go_enter Try.func75, Try.ntmps75
      go_wp2_with fail
      go_region
      all_goals
        go_wp2_with fail
        go_region
        all_goals
          go_wp2_with fail
          go_ret2
          exact ⟨rfl, (Upd.refl _ _).drew.drew⟩
    · rw [if_neg h1]
      refine (readerEnd2_any w B p v l s.a (h.good h0) (by have := h.le; omega) hl).mono ?_
      rintro e w' ⟨rfl, hr, hu⟩
      exact ⟨rfl, hu⟩
  · rw [if_pos h0]
    exact endBad_any w p v s.a s.why s.en h.at_ h0
end Go.Proofs.Ythlbmjjodjepjaa
