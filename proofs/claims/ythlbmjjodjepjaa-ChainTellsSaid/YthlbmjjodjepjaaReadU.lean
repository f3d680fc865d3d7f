/-
  The walks of a reader, where all is there.
-/
import Derived.Test.YthlbmjjodjepjaaWireU
set_option linter.unusedVariables false
set_option linter.unusedSimpArgs false
namespace Go.Proofs.Ythlbmjjodjepjaa
open Go.RowKit

set_option maxHeartbeats 4000000 in
theorem take3_any (w : World) (B p : Nat) (v : Value) (l : List UInt8) (a : Nat) (h : ReaderAt w B p v l a) (n : Nat) (h0 : a < l.length) (hn : a + n ≤ l.length) (hl : l.length ≤ 100000000) :
    Calls Try.prog 87 #[.pointer (some ⟨p, 0, none⟩), .int .i64 (n : Int)] w fun e w' => ∃ A c, e = .returned (.slice A n c) ∧ RB w' A ((l.drop a).take n) ∧ ReaderAt w' B p v l (a + n) ∧ Upd (fun k => k = p) w w' := by
  obtain ⟨g, c0, rfl, hB, hc⟩ := own_form h.own (by omega)
  have k0 := h.c0
  have k1 := h.c1
  have k2 := h.c2
  have f1 := h.f0 1
  have hlt := h.lt
  have H := Lib.hid h
  clear h
  have hne : ¬ (c0 = a) := by omega
  have hw1 : IntKind.i64.wrap ((l.length : Int) - (a : Int)) = (l.length : Int) - (a : Int) := by rw [IntKind.wrap_i64]; omega
  have hw2 : ¬ ((l.length : Int) - (a : Int) < (n : Int)) := by omega
  go_enter Try.func87, Try.ntmps87
  go_wp2_with fail
  go_region
  go_wp2_with fail
  go_region
  go_wp2_with fail
  go_ret
  have hb1 : Upd (fun k => k = p) w (w.setCell ⟨p, 1, none⟩ (.int .i64 ((a : Int) + (n : Int)))) := (Upd.refl (fun k => k = p) w).setCell (fun _ => rfl) _
  refine ⟨some ⟨g, a, none⟩, c0 - a, (show Ending.returned (.slice (some ⟨g, a, none⟩) (a + n - a) (c0 - a)) = _ by rw [Nat.add_sub_cancel_left]), ?_, ⟨?_, own_setCell H.out.own H.out.ne _, H.out.ne, H.out.base⟩, hb1.drew.drew⟩
  · intro _
    refine ⟨_, rfl, fun j hj => ?_⟩
    have hj' : a + j < l.length := by simp at hj; omega
    have h1 := own_byte (own_setCell (j := 1) H.out.own H.out.ne (.int .i64 ((a : Int) + (n : Int)))) (a + j) hj'
    rw [add_off]
    refine Eq.trans ?_ (h1.trans ?_)
    · rfl
    · simp
  · exact (setCell_at H.out.at_ _).trans rfl


set_option maxHeartbeats 1000000 in
theorem readerByte2_any (w : World) (B p : Nat) (v : Value) (l : List UInt8) (a : Nat) (h : ReaderAt w B p v l a) (hn : a + 1 ≤ l.length) (hl : l.length ≤ 100000000) :
    Calls Try.prog 74 #[.pointer (some ⟨p, 0, none⟩)] w fun e w' => e = .returned (.int .i64 (un8 (bt l a))) ∧ ReaderAt w' B p v l (a + 1) ∧ Upd (fun k => k = p) w w' := by
  have e1 : (l.drop a).take 1 = [bt l a] := by
    rw [List.drop_eq_getElem_cons (by omega), List.take_succ_cons, List.take_zero]
    simp [bt, List.getD_eq_getElem?_getD, List.getElem?_eq_getElem (show a < l.length by omega)]
  have e2 : ((numOf ((l.drop a).take 1) : Nat) : Int) = un8 (bt l a) := by rw [e1]; simp [numOf, un8]
  have hx := un8_range (bt l a)
  generalize bt l a = x at *
  have E2 := Lib.hid e2
  clear e1 e2
  go_enter Try.func74, Try.ntmps74
  go_wp2_with fail
  refine (get2_any w B p v l a h 1 (by omega) (by omega) hn hl).mono ?_
  rw [E2.out]
  rintro e w1 ⟨rfl, hw, hb⟩
  have H := Lib.hid hw
  have HB := Lib.hid hb
  clear hw hb h
  have hw : IntKind.i64.wrap (un8 x) = un8 x := by rw [IntKind.wrap_i64]; omega
  clear hx
  go_wp2_with fail
  go_ret
  exact ⟨rfl, H.out, HB.out⟩

set_option maxHeartbeats 1000000 in
theorem readerCount2_any (w : World) (B p : Nat) (v : Value) (l : List UInt8) (a : Nat) (h : ReaderAt w B p v l a) (hn : a + 4 ≤ l.length) (hl : l.length ≤ 100000000) (most m : Nat) (hm : four (l.drop a) = m) (hmm : m ≤ most) (hmo : most ≤ 100000) :
    Calls Try.prog 71 #[.pointer (some ⟨p, 0, none⟩), .int .i64 (most : Int)] w fun e w' => e = .returned (.int .i64 (m : Int)) ∧ ReaderAt w' B p v l (a + 4) ∧ Upd (fun k => k = p) w w' := by
  have H := Lib.hid h
  have k1 := h.c1
  have HM := Lib.hid hm
  clear h hm
  go_enter Try.func71, Try.ntmps71
  go_wp2_with fail
  refine (readerFour2_any w B p v l a H.out hn hl).mono ?_
  rw [HM.out]
  rintro e w1 ⟨rfl, hw, hb⟩
  have k2 := hw.c2
  have H1 := Lib.hid hw
  have HB := Lib.hid hb
  clear hw hb
  have hmx : max (most : Int) 0 = (most : Int) := by omega
  have hgt : ¬ ((most : Int) < (m : Int)) := by omega
  go_wp2_with fail
  go_ret
  exact ⟨rfl, H1.out, HB.out⟩

set_option maxHeartbeats 1000000 in
theorem readerText2_any (w : World) (B p : Nat) (v : Value) (l : List UInt8) (a : Nat) (h : ReaderAt w B p v l a) (hl : l.length ≤ 100000000) (most m : Nat) (hm : four (l.drop a) = m) (hmm : m ≤ most) (hmo : most ≤ 100000) (hn : a + 4 + m < l.length) :
    Calls Try.prog 73 #[.pointer (some ⟨p, 0, none⟩), .int .i64 (most : Int)] w fun e w' => e = .returned (.string (strB ((l.drop (a + 4)).take m))) ∧ ReaderAt w' B p v l (a + 4 + m) ∧ Upd (fun k => k = p) w w' := by
  have H := Lib.hid h
  clear h
  have hxl : ((l.drop (a + 4)).take m).length = m := by rw [List.length_take, List.length_drop]; omega
  obtain ⟨x, ex⟩ : ∃ x, x = (l.drop (a + 4)).take m := ⟨_, rfl⟩
  rw [← ex] at hxl ⊢
  have EX := Lib.hid ex
  have HXL := Lib.hid hxl
  clear ex hxl
  go_enter Try.func73, Try.ntmps73
  go_wp2_with fail
  refine (readerCount2_any w B p v l a H.out (by omega) hl most m hm hmm hmo).mono ?_
  rintro e w1 ⟨rfl, hw, hb⟩
  have H1 := Lib.hid hw
  have HB1 := Lib.hid hb
  clear hw hb
  go_wp2_with fail
  refine (take3_any w1 B p v l (a + 4) H1.out m (by omega) (by omega) hl).mono ?_
  rw [← EX.out]
  rintro e w2 ⟨A, c, rfl, hr, hw, hb⟩
  have hst := run_string_RB (P := Try.prog) w2 37 9 5 Try.underlying37 Try.underlying5 Try.underlying9 A m c x HXL.out hr
  have H2 := Lib.hid hw
  have HB2 := Lib.hid (HB1.out.trans hb (fun _ _ h => h))
  clear hw hb hr
  go_wp2_with fail
  go_ret
  exact ⟨rfl, H2.out, HB2.out⟩

set_option maxHeartbeats 1000000 in
theorem readerLeft2_any (w : World) (B p : Nat) (v : Value) (l : List UInt8) (a : Nat) (h : ReaderAt w B p v l a) (hn : a ≤ l.length) (hl : l.length ≤ 100000000) :
    Calls Try.prog 72 #[.pointer (some ⟨p, 0, none⟩)] w fun e w' => e = .returned (.int .i64 ((l.length - a : Nat) : Int)) ∧ ReaderAt w' B p v l a ∧ Upd (fun k => k = p) w w' := by
  obtain ⟨A, c, rfl, _⟩ := own_slice h.own
  have k0 := h.c0
  have k1 := h.c1
  have k2 := h.c2
  have H := Lib.hid h
  clear h
  have hw1 : IntKind.i64.wrap ((l.length : Int) - (a : Int)) = ((l.length - a : Nat) : Int) := by rw [IntKind.wrap_i64]; omega
  have hsub : (l.length : Int) - (a : Int) = ((l.length - a : Nat) : Int) := by omega
  have HSUB := Lib.hid hsub
  clear hsub
  go_enter Try.func72, Try.ntmps72
  go_wp2_with fail
  go_region
  all_goals
    go_wp2_with fail
    go_ret
    refine ⟨?_, H.out.drew, (Upd.refl _ _).drew⟩
    first | rfl | rw [HSUB.out]

set_option maxHeartbeats 1000000 in
theorem readerEnd2_any (w : World) (B p : Nat) (v : Value) (l : List UInt8) (a : Nat) (h : ReaderAt w B p v l a) (hn : a = l.length) (hl : l.length ≤ 100000000) :
    Calls Try.prog 75 #[.pointer (some ⟨p, 0, none⟩)] w fun e w' => e = .returned (.tuple #[.int .i64 0, .int .i64 0]) ∧ ReaderAt w' B p v l a ∧ Upd (fun k => k = p) w w' := by
  obtain ⟨A, c, rfl, _⟩ := own_slice h.own
  have k0 := h.c0
  have k1 := h.c1
  have k2 := h.c2
  have H := Lib.hid h
  clear h
  have hlt : ¬ ((a : Int) < (l.length : Int)) := by omega
  go_enter Try.func75, Try.ntmps75
  go_wp2_with fail
  go_region
  all_goals
    go_wp2_with fail
    go_ret2
    exact ⟨rfl, H.out.drew, (Upd.refl _ _).drew⟩

end Go.Proofs.Ythlbmjjodjepjaa
