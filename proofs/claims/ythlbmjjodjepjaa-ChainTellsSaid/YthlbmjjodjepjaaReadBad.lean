/-
  The walks of a reader, where something is refused; and of Decode there.
-/
import Derived.Test.YthlbmjjodjepjaaChainDecodeG
set_option linter.unusedVariables false
set_option linter.unusedSimpArgs false
namespace Go.Proofs.Ythlbmjjodjepjaa
open Go.RowKit

/-- A reader that has refused. -/
def BadAt (w : World) (p : Nat) (v : Value) (a : Nat) (why en : Int) : Prop := w.heap[p]? = some (.cells #[v, .int .i64 (a : Int), .int .i64 why, .int .i64 en] 125 (0, 0))
namespace BadAt
variable {w : World} {p a : Nat} {v : Value} {why en : Int}
theorem lt (h : BadAt w p v a why en) : p < w.heap.size := (Array.getElem?_eq_some_iff.1 h).1
theorem c0 (h : BadAt w p v a why en) : w.cell? ⟨p, 0, none⟩ = some v := by rw [cell_of_row w p 0 _ _ _ h]; rfl
theorem c1 (h : BadAt w p v a why en) : w.cell? ⟨p, 1, none⟩ = some (.int .i64 (a : Int)) := by rw [cell_of_row w p 1 _ _ _ h]; rfl
theorem c2 (h : BadAt w p v a why en) : w.cell? ⟨p, 2, none⟩ = some (.int .i64 why) := by rw [cell_of_row w p 2 _ _ _ h]; rfl
theorem c3 (h : BadAt w p v a why en) : w.cell? ⟨p, 3, none⟩ = some (.int .i64 en) := by rw [cell_of_row w p 3 _ _ _ h]; rfl
theorem upd {F : Nat → Prop} {w' : World} (h : BadAt w p v a why en) (u : Upd F w w') (hp : ¬ F p) : BadAt w' p v a why en := (u.block p h.lt hp).trans h
end BadAt

set_option maxHeartbeats 1000000 in
theorem refuse_any (w : World) (B p : Nat) (v : Value) (l : List UInt8) (a : Nat) (h : ReaderAt w B p v l a) (why en : Int) :
    Calls Try.prog 86 #[.pointer (some ⟨p, 0, none⟩), .int .i64 why, .int .i64 en] w fun e w' => e = .returned (.tuple #[]) ∧ BadAt w' p v a why en ∧ Upd (fun k => k = p) w w' := by
  have k2 := h.c2
  have hk3 : w.cell? ⟨p, 3, none⟩ = some (.int .i64 0) := by rw [cell_of_row w p 3 _ _ _ h.at_]; rfl
  have f2 := h.f0 2
  have f3 := h.f0 3
  have H := Lib.hid h
  clear h
  go_enter Try.func86, Try.ntmps86
  go_wp2_with fail
  go_end0
  refine ⟨rfl, ?_, ((Upd.refl (fun k => k = p) w).setCell (fun _ => rfl) _).setCell (fun _ => rfl) _⟩
  exact (setCell_at (setCell_at H.out.at_ _) _).trans rfl

set_option maxHeartbeats 1000000 in
/-- A count that is too long. -/
theorem countLong_any (w : World) (B p : Nat) (v : Value) (l : List UInt8) (a : Nat) (h : ReaderAt w B p v l a) (hn : a + 4 ≤ l.length) (hl : l.length ≤ 100000000) (most m : Nat) (hm : four (l.drop a) = m) (hmm : most < m) (hmo : most ≤ 100000) :
    Calls Try.prog 71 #[.pointer (some ⟨p, 0, none⟩), .int .i64 (most : Int)] w fun e w' => e = .returned (.int .i64 0) ∧ BadAt w' p v (a + 4) 3 (a : Int) ∧ Upd (fun k => k = p) w w' := by
  have H := Lib.hid h
  have k1 := h.c1
  have HM := Lib.hid hm
  clear h hm
  go_enter Try.func71, Try.ntmps71
  go_wp2_with fail
  refine (readerFour2_any w B p v l a H.out hn hl).mono ?_
  rw [HM.out]
  rintro e w1 ⟨rfl, hw, hb⟩
  have H1 := Lib.hid hw
  have HB := Lib.hid hb
  clear hw hb
  have hmx : max (most : Int) 0 = (most : Int) := by omega
  have hgt : (most : Int) < (m : Int) := by omega
  go_wp2_with fail
  refine (refuse_any w1 B p v l (a + 4) H1.out 3 (a : Int)).mono ?_
  rintro e w2 ⟨rfl, hw, hu⟩
  have k2 := hw.c2
  have H2 := Lib.hid hw
  have HB2 := Lib.hid (HB.out.trans hu (fun _ _ h => h))
  clear hw hu
  go_wp2_with fail
  go_ret
  exact ⟨rfl, H2.out, HB2.out⟩

set_option maxHeartbeats 1000000 in
theorem takeShort_any (w : World) (B p : Nat) (v : Value) (l : List UInt8) (a : Nat) (h : ReaderAt w B p v l a) (n : Nat) (ha : a ≤ l.length) (hn : l.length < a + n) (hl : l.length ≤ 100000000) (hn2 : n ≤ 100000) :
    Calls Try.prog 87 #[.pointer (some ⟨p, 0, none⟩), .int .i64 (n : Int)] w fun e w' => e = .returned (.slice none 0 0) ∧ BadAt w' p v a 10 (l.length : Int) ∧ Upd (fun k => k = p) w w' := by
  obtain ⟨A, c, rfl, _⟩ := own_slice h.own
  have k0 := h.c0
  have k1 := h.c1
  have k2 := h.c2
  have H := Lib.hid h
  clear h
  have hw1 : IntKind.i64.wrap ((l.length : Int) - (a : Int)) = (l.length : Int) - (a : Int) := by rw [IntKind.wrap_i64]; omega
  have hw2 : (l.length : Int) - (a : Int) < (n : Int) := by omega
  go_enter Try.func87, Try.ntmps87
  go_wp2_with fail
  go_region
  go_wp2_with fail
  refine (refuse_any w.drew B p _ l a H.out.drew 10 (l.length : Int)).mono ?_
  rintro e w2 ⟨rfl, hw, hu⟩
  have H2 := Lib.hid hw
  have HU := Lib.hid ((Upd.refl (fun k => k = p) w).drew.trans hu (fun _ _ h => h))
  clear hw hu
  go_wp2_with fail
  go_ret
  exact ⟨rfl, H2.out, HU.out⟩

set_option maxHeartbeats 4000000 in
theorem getShort_any (w : World) (B p : Nat) (v : Value) (l : List UInt8) (a : Nat) (h : ReaderAt w B p v l a) (n : Nat) (ha : a ≤ l.length) (hn : l.length < a + n) (hl : l.length ≤ 100000000) (hn2 : n ≤ 100000) :
    Calls Try.prog 88 #[.pointer (some ⟨p, 0, none⟩), .int .i64 (n : Int)] w fun e w' => e = .returned (.int .u64 0) ∧ BadAt w' p v a 10 (l.length : Int) ∧ Upd (fun k => k = p) w w' := by
  have H := Lib.hid h
  clear h
  go_enter Try.func88, Try.ntmps88
  go_wp2_with fail
  refine wp_scope_loop 0 (fun a' w' => ∃ (u8 u9 u10 u11 u12 u13 u14 u15 u16 u17 u18 u19 u20 u21 u22 u23 u24 u25 : Value),
    a' = { tmps := #[.pointer (some ⟨p, 0, none⟩), .int .i64 (n : Int), undef, undef, .int .u64 0, .int .u64 0, .slice none 0 0, .int .i64 0, u8, u9, u10, u11, u12, u13, u14, u15, u16, u17, u18, u19, u20, u21, u22, u23, u24, u25], defers := [] } ∧
    BadAt w' p v a 10 (l.length : Int) ∧ Upd (fun k => k = p) w w') (fun _ _ => 0) rfl ?pass ?first
  case first =>
    intro hrest
    go_wp2_with fail
    refine (takeShort_any w B p v l a H.out n ha hn hl hn2).mono ?_
    rintro e w1 ⟨rfl, hw, hu⟩
    have H1 := Lib.hid hw
    have HU := Lib.hid hu
    clear hw hu
    go_wp2_with fail
    go_step3
    rename_i hK
    refine hK _ _ (hrest _ _ ?_)
    exact ⟨_, _, _, _, _, _, _, _, _, _, _, _, _, _, _, _, _, _, rfl, H1.out, HU.out⟩
  case pass =>
    rintro a' w' ⟨u8, u9, u10, u11, u12, u13, u14, u15, u16, u17, u18, u19, u20, u21, u22, u23, u24, u25, rfl, hw, hu⟩
    have H1 := Lib.hid hw
    have HU := Lib.hid hu
    clear hw hu
    go_wp2_with fail
    simp only [Exit.jump]
    go_ret
    exact ⟨rfl, H1.out, HU.out⟩

set_option maxHeartbeats 1000000 in
theorem fourShort_any (w : World) (B p : Nat) (v : Value) (l : List UInt8) (a : Nat) (h : ReaderAt w B p v l a) (ha : a ≤ l.length) (hn : l.length < a + 4) (hl : l.length ≤ 100000000) :
    Calls Try.prog 85 #[.pointer (some ⟨p, 0, none⟩)] w fun e w' => e = .returned (.int .i64 0) ∧ BadAt w' p v a 10 (l.length : Int) ∧ Upd (fun k => k = p) w w' := by
  go_enter Try.func85, Try.ntmps85
  go_wp2_with fail
  refine (getShort_any w B p v l a h 4 ha hn hl (by omega)).mono ?_
  rintro e w1 ⟨rfl, hw, hb⟩
  have H := Lib.hid hw
  have HB := Lib.hid hb
  clear hw hb h
  go_wp2_with fail
  go_ret
  exact ⟨rfl, H.out, HB.out⟩

set_option maxHeartbeats 1000000 in
/-- A count where there are no four bytes. -/
theorem countShort_any (w : World) (B p : Nat) (v : Value) (l : List UInt8) (a : Nat) (h : ReaderAt w B p v l a) (ha : a ≤ l.length) (hn : l.length < a + 4) (hl : l.length ≤ 100000000) (most : Nat) (hmo : most ≤ 100000) :
    Calls Try.prog 71 #[.pointer (some ⟨p, 0, none⟩), .int .i64 (most : Int)] w fun e w' => e = .returned (.int .i64 0) ∧ BadAt w' p v a 10 (l.length : Int) ∧ Upd (fun k => k = p) w w' := by
  have H := Lib.hid h
  have k1 := h.c1
  clear h
  go_enter Try.func71, Try.ntmps71
  go_wp2_with fail
  refine (fourShort_any w B p v l a H.out ha hn hl).mono ?_
  rintro e w1 ⟨rfl, hw, hb⟩
  have k2 := hw.c2
  have H1 := Lib.hid hw
  have HB := Lib.hid hb
  clear hw hb
  have hmx : max (most : Int) 0 = (most : Int) := by omega
  have hgt : ¬ ((most : Int) < 0) := by omega
  go_wp2_with fail
  go_ret
  exact ⟨rfl, H1.out, HB.out⟩

set_option maxHeartbeats 1000000 in
theorem endBad_any (w : World) (p : Nat) (v : Value) (a : Nat) (why en : Int) (h : BadAt w p v a why en) (hw : why ≠ 0) :
    Calls Try.prog 75 #[.pointer (some ⟨p, 0, none⟩)] w fun e w' => e = .returned (.tuple #[.int .i64 why, .int .i64 en]) ∧ Upd (fun k => k = p) w w' := by
  have k2 := h.c2
  have k3 := h.c3
  have hne : (why != 0) = true := by simpa using hw
  clear h
  go_enter Try.func75, Try.ntmps75
  go_wp2_with fail
  go_region
  all_goals
    go_wp2_with fail
    go_ret2
    exact ⟨rfl, (Upd.refl _ _).drew⟩

set_option maxRecDepth 100000 in
set_option maxHeartbeats 16000000 in
/-- Decode where the count itself is refused. -/
theorem decode_bad (A : Option Addr) (n c : Nat) (l : List UInt8) (w : World) (hl : l.length = n) (hn : n ≤ 100000000) (hr : RB w A l) (hnil : A = none → c = 0) (a' : Nat) (why en : Int) (hw0 : why ≠ 0)
    (hc : ∀ (w1 : World) (q : Nat) (vq : Value), ReaderAt w1 w.heap.size q vq l 0 → Calls Try.prog 71 #[.pointer (some ⟨q, 0, none⟩), .int .i64 ((4096 : Nat) : Int)] w1 fun e w' => e = .returned (.int .i64 0) ∧ BadAt w' q vq a' why en ∧ Upd (fun k => k = q) w1 w') :
    Calls Try.prog 51 #[.slice A n c] w fun e w' => e = .returned (.tuple #[.slice none 0 0, .int .i64 why, .int .i64 en]) ∧ Below w.heap.size w w' := by
  subst hl
  have HR := Lib.hid hr
  have HNIL := Lib.hid hnil
  have HC := Lib.hid hc
  have hne : (why != 0) = true := by simpa using hw0
  clear hr hnil hc
  go_enter Try.func51, Try.ntmps51
  go_wp2_with fail
  refine wp_scope_loop 0 (fun a2 w' => ∃ (q : Nat) (vq : Value) (t : List Value),
    a2 = { tmps := (.slice A l.length c :: undef :: .slice none 0 0 :: .int .i64 0 :: .int .i64 0 :: .pointer (some ⟨q, 0, none⟩) :: .slice none 0 0 :: .slice none 0 0 :: .int .i64 0 :: t).toArray, defers := [] } ∧ t.length = 67 ∧
    BadAt w' q vq a' why en ∧ w.heap.size ≤ q ∧ Below w.heap.size w w')
    (fun _ _ => 0) rfl ?pass ?first
  case first =>
    intro hrest
    go_wp2_with fail
    refine (newReader_any A l.length c l _ rfl hn HR.out HNIL.out).mono ?_
    rintro e w1 ⟨q, vq, rfl, hw, hb⟩
    have R1 := Lib.hid hw
    have B1 := Lib.hid hb
    clear hw hb
    go_wp2_with fail
    refine (HC.out w1 q vq R1.out).mono ?_
    rintro e w2 ⟨rfl, hw, hu⟩
    have R2 := Lib.hid hw
    have B2 := Lib.hid (below_upd B1.out B1.out.size hu (fun k hk => by rw [hk]; exact R1.out.base))
    have HBQ := Lib.hid R1.out.base
    clear hw hu
    go_wp2_with fail
    go_step3
    rename_i hK
    refine hK _ _ (hrest _ _ ?_)
    exact ⟨q, vq, _, rfl, rfl, R2.out, HBQ.out, B2.out⟩
  case pass =>
    rintro a2 w' ⟨q, vq, tl, rfl, htl0, hbd, hbq, hb⟩
    obtain ⟨u, rfl⟩ := tail67 tl htl0
    have HBD := Lib.hid hbd
    have HBQ := Lib.hid hbq
    have HB := Lib.hid hb
    clear htl0 hbd hbq hb
    go_wp2_with fail
    refine (endBad_any w' q vq a' why en HBD.out hw0).mono ?_
    rintro e w2 ⟨rfl, hu⟩
    have HB2 := Lib.hid (below_upd HB.out HB.out.size hu (fun k hk => by rw [hk]; exact HBQ.out))
    clear hu
    go_wp2_with fail
    simp only [Exit.jump]
    go_ret3
    exact ⟨rfl, HB2.out⟩

end Go.Proofs.Ythlbmjjodjepjaa
