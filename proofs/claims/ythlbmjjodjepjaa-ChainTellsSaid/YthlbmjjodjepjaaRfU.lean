/-
  The walks of the reference's reader: numbers, counts, texts, the end.
-/
import Derived.Test.YthlbmjjodjepjaaRfG
set_option linter.unusedVariables false
set_option linter.unusedSimpArgs false
namespace Go.Proofs.Ythlbmjjodjepjaa
open Go.RowKit

theorem rfRaw_g (w : World) (p : Nat) (A : Option Addr) (c : Nat) (l : List UInt8) (s : Rs) (h : RfAt w p A c l s) (n : Nat) (hn : n ≤ 100000) (hl : l.length ≤ 100000000) (hz : s.why = 0 → 0 < n ∨ 0 < l.length) :
    Calls Try.prog 78 #[.pointer (some ⟨p, 0, none⟩), .int .i64 (n : Int)] w fun e w' => ∃ A2 c2, e = .returned (.slice A2 (rawS l n s).1.length c2) ∧ RB w' A2 (rawS l n s).1 ∧ (∀ ad, A2 = some ad → w.heap.size ≤ ad.block) ∧ RfAt w' p A c l (rawS l n s).2 ∧ Upd (fun k => k = p) w w' := by
  unfold rawS
  by_cases h0 : s.why = 0
  · rw [if_neg (by simpa using h0)]
    by_cases h1 : l.length < s.a + n
    · rw [if_pos h1]
      refine (rfRawShort_any w p A c l s h h0 n h1 hl hn).mono ?_
      rintro e w' ⟨rfl, hr, hu⟩
      exact ⟨none, 0, rfl, RB.nil _ _, (fun ad e => by cases e), hr, hu⟩
    · rw [if_neg h1]
      have hl0 : 0 < l.length := by rcases hz h0 with h | h <;> omega
      have e1 : ((l.drop s.a).take n).length = n := by rw [List.length_take, List.length_drop]; omega
      obtain ⟨b, o, rfl, _⟩ := h.rb.parts hl0
      refine (rfRawGood_any w p b o c l s h h0 n (by omega) hl hl0).mono ?_
      rintro e w' ⟨A2, c2, rfl, hr, hb, hf, hu⟩
      exact ⟨A2, c2, by rw [e1], hr, hb, hf, hu⟩
  · rw [if_pos h0]
    refine (rfRawBad_any w p A c l s h h0 (n : Int)).mono ?_
    rintro e w' ⟨rfl, rfl⟩
    exact ⟨none, 0, rfl, RB.nil _ _, (fun ad e => by cases e), h, Upd.refl _ _⟩

set_option maxHeartbeats 4000000 in
theorem rfNumber_g (w : World) (p : Nat) (A : Option Addr) (c : Nat) (l : List UInt8) (s : Rs) (h : RfAt w p A c l s) (n : Nat) (hn0 : 0 < n) (hn8 : n ≤ 7) (hl : l.length ≤ 100000000) :
    Calls Try.prog 94 #[.pointer (some ⟨p, 0, none⟩), .int .i64 (n : Int)] w fun e w' => e = .returned (.int .u64 (numOf (rawS l n s).1 : Nat)) ∧ RfAt w' p A c l (rawS l n s).2 ∧ Upd (fun k => k = p) w w' := by
  have hx := rawS_length l n s
  obtain ⟨x, ex⟩ : ∃ x, x = (rawS l n s).1 := ⟨_, rfl⟩
  obtain ⟨m, em⟩ : ∃ m, m = x.length := ⟨_, rfl⟩
  rw [← ex] at hx ⊢
  rw [← em] at hx
  obtain ⟨s2, es⟩ : ∃ s2, s2 = (rawS l n s).2 := ⟨_, rfl⟩
  rw [← es]
  have EM := Lib.hid em
  have HM7 : m ≤ 7 := by omega
  go_enter Try.func94, Try.ntmps94
  go_wp2_with fail
  refine (rfRaw_g w p A c l s h n (by omega) hl (fun _ => .inl hn0)).mono ?_
  rw [← ex, ← es, ← em]
  rintro e w1 ⟨A2, c2, rfl, hr, _, hf, hu⟩
  have H := Lib.hid hf
  have HR := Lib.hid hr
  have HU := Lib.hid hu
  clear h hf hr hu ex es em
  go_wp2_with fail
  go_loopg [6, 7] m (fun k s6 s7 wr => ∃ (i y : Nat), i ≤ m ∧ k = m - i ∧ s7 = .int .i64 (i : Int) ∧ s6 = .int .u64 (y : Int) ∧ y = numOf (x.take i) ∧ wr = w1)
  case atStart => exact ⟨0, 0, Nat.zero_le _, by omega, rfl, rfl, by simp [numOf], rfl⟩
  case round =>
    obtain ⟨i, y, hi, hk, rfl, rfl, hy, rfl⟩ := hrel
    have HK := Lib.hid hk
    clear hk
    by_cases hlt : i < m
    · have hix : i < x.length := by rw [← EM.out]; exact hlt
      obtain ⟨b, o, rfl, hc⟩ := HR.out.parts (by omega)
      have k1 := hc i hix
      have hs : numOf (x.take (i + 1)) = numOf (x.take i) * 256 + x[i].toNat := by
        rw [List.take_succ_eq_append_getElem (by omega), numOf_snoc]
      have hb1 : numOf (x.take i) < 72057594037927936 := by
        have h1 := numOf_lt (x.take i)
        have h2 : 256 ^ (x.take i).length ≤ 256 ^ 7 := Nat.pow_le_pow_right (by omega) (by rw [List.length_take]; omega)
        have h3 : 256 ^ 7 = 72057594037927936 := by decide
        omega
      rw [← hy] at hs hb1
      have ho := or64_low y x[i] hb1
      rw [← hs, Int.natCast_mul] at ho
      obtain ⟨y1, ey1⟩ : ∃ y1, y1 = numOf (x.take (i + 1)) := ⟨_, rfl⟩
      rw [← ey1] at ho
      have EY := Lib.hid ey1
      have hwb := un8_range x[i]
      have how : IntKind.u64.wrap (un8 x[i]) = un8 x[i] := by rw [IntKind.wrap_u64]; omega
      generalize x[i] = bb at *
      have hw1 : IntKind.u64.wrap ((y : Int) * 256) = (y : Int) * 256 := by rw [IntKind.wrap_u64]; omega
      clear hc hs hy hb1 ey1 hwb hix
      have ho' : bits .or .u64 ((y : Int) * 256) (un8 bb) = (y1 : Int) := ho
      clear ho
      have HLT := Lib.hid hlt
      go_wp2_with fail
      go_roundg (m - (i + 1))
      case measure => have := HK.out; have := HLT.out; omega
      case rel => exact ⟨i + 1, y1, HLT.out, rfl, by go_num, rfl, EY.out, rfl⟩
    · obtain rfl : i = m := by omega
      rw [show x.take i = x from List.take_of_length_le (by rw [← EM.out]; exact Nat.le_refl _)] at hy
      have HYY := Lib.hid hy
      clear hy
      go_wp2_with fail
      go_ret
      exact ⟨by rw [← HYY.out]; rfl, H.out, HU.out⟩

set_option maxHeartbeats 1000000 in
theorem rfFour_g (w : World) (p : Nat) (A : Option Addr) (c : Nat) (l : List UInt8) (s : Rs) (h : RfAt w p A c l s) (hl : l.length ≤ 100000000) :
    Calls Try.prog 89 #[.pointer (some ⟨p, 0, none⟩)] w fun e w' => e = .returned (.int .i64 ((fourS l s).1 : Nat)) ∧ RfAt w' p A c l (fourS l s).2 ∧ Upd (fun k => k = p) w w' := by
  have hlt := fourS_lt l s
  obtain ⟨y, ey⟩ : ∃ y, y = (fourS l s).1 := ⟨_, rfl⟩
  rw [← ey] at hlt ⊢
  go_enter Try.func89, Try.ntmps89
  go_wp2_with fail
  refine (rfNumber_g w p A c l s h 4 (by omega) (by omega) hl).mono ?_
  rw [show numOf (rawS l 4 s).1 = y from ey.symm]
  rintro e w1 ⟨rfl, hw, hb⟩
  have H := Lib.hid hw
  have HB := Lib.hid hb
  clear hw hb h ey
  have hw : IntKind.i64.wrap (y : Int) = (y : Int) := by rw [IntKind.wrap_i64]; omega
  clear hlt
  go_wp2_with fail
  go_ret
  exact ⟨rfl, H.out, HB.out⟩

theorem fourS_keep (l : List UInt8) (s : Rs) (hm : (fourS l s).1 ≠ 0) : (fourS l s).2.why = 0 := by
  by_cases hw : s.why = 0
  · unfold fourS rawS at hm ⊢
    rw [if_neg (by simpa using hw)] at hm ⊢
    split
    · rename_i h3
      rw [if_pos h3] at hm
      simp [numOf] at hm
    · exact hw
  · rw [fourS_bad hw] at hm
    exact absurd rfl hm

set_option maxHeartbeats 1000000 in
theorem rfCount_g (w : World) (p : Nat) (A : Option Addr) (c : Nat) (l : List UInt8) (s : Rs) (h : RfAt w p A c l s) (hl : l.length ≤ 100000000) (most : Nat) (hmo : most ≤ 100000) :
    Calls Try.prog 76 #[.pointer (some ⟨p, 0, none⟩), .int .i64 (most : Int)] w fun e w' => e = .returned (.int .i64 ((countS l most s).1 : Nat)) ∧ RfAt w' p A c l (countS l most s).2 ∧ Upd (fun k => k = p) w w' := by
  have H := Lib.hid h
  have k1 := h.c1
  have hkeep := fourS_keep l s
  unfold countS
  obtain ⟨m, em⟩ : ∃ m, m = (fourS l s).1 := ⟨_, rfl⟩
  obtain ⟨s2, es⟩ : ∃ s2, s2 = (fourS l s).2 := ⟨_, rfl⟩
  have E : fourS l s = (m, s2) := by rw [em, es]
  rw [E] at hkeep ⊢
  have HKP := Lib.hid hkeep
  have EM := Lib.hid em
  have ES := Lib.hid es
  dsimp only
  clear h hkeep em es E
  have hmz : ¬ ((most : Int) < 0) := by omega
  by_cases hgt : most < m
  · rw [if_pos hgt]
    have H0 := Lib.hid (HKP.out (by omega))
    have hgt' : (most : Int) < (m : Int) := by omega
    go_enter Try.func76, Try.ntmps76
    go_wp2_with fail
    refine (rfFour_g w p A c l s H.out hl).mono ?_
    rw [← EM.out, ← ES.out]
    rintro e w1 ⟨rfl, hw, hb⟩
    have k2 := hw.c2g H0.out
    have H1 := Lib.hid hw
    have HB := Lib.hid hb
    clear hw hb
    go_wp2_with fail
    refine (rfRefuse_any w1 p A c l s2 H1.out H0.out 3 (s.a : Int) (by omega)).mono ?_
    rintro e w2 ⟨rfl, hw, hu⟩
    have H2 := Lib.hid hw
    have HB2 := Lib.hid (HB.out.trans hu (fun _ _ h => h))
    clear hw hu
    go_wp2_with fail
    go_ret
    exact ⟨rfl, H2.out, HB2.out⟩
  · rw [if_neg hgt]
    have hgt' : ¬ ((most : Int) < (m : Int)) := by omega
    by_cases h0 : s2.why = 0
    · have H0 := Lib.hid h0
      go_enter Try.func76, Try.ntmps76
      go_wp2_with fail
      refine (rfFour_g w p A c l s H.out hl).mono ?_
      rw [← EM.out, ← ES.out]
      rintro e w1 ⟨rfl, hw, hb⟩
      have k2 := hw.c2g H0.out
      have H1 := Lib.hid hw
      have HB := Lib.hid hb
      clear hw hb h0
      go_wp2_with fail
      go_ret
      exact ⟨rfl, H1.out, HB.out⟩
    · have H0 := Lib.hid h0
      go_enter Try.func76, Try.ntmps76
      go_wp2_with fail
      refine (rfFour_g w p A c l s H.out hl).mono ?_
      rw [← EM.out, ← ES.out]
      rintro e w1 ⟨rfl, hw, hb⟩
      have k2 := hw.c2b H0.out
      have H1 := Lib.hid hw
      have HB := Lib.hid hb
      clear hw hb h0
      go_wp2_with fail
      go_ret
      exact ⟨rfl, H1.out, HB.out⟩

theorem countS_ok (l : List UInt8) (most : Nat) (s : Rs) (h : (countS l most s).2.why = 0) : s.why = 0 ∧ 4 ≤ l.length := by
  by_cases hw : s.why = 0
  · refine ⟨hw, ?_⟩
    unfold countS at h
    split at h
    · simp at h
    · unfold fourS rawS at h
      rw [if_neg (by simpa using hw)] at h
      split at h
      · simp at h
      · omega
  · rw [countS_bad hw] at h
    exact absurd h hw
set_option maxHeartbeats 1000000 in
theorem rfText_g (w : World) (p : Nat) (A : Option Addr) (c : Nat) (l : List UInt8) (s : Rs) (h : RfAt w p A c l s) (hl : l.length ≤ 100000000) (most : Nat) (hmo : most ≤ 100000) :
    Calls Try.prog 77 #[.pointer (some ⟨p, 0, none⟩), .int .i64 (most : Int)] w fun e w' => e = .returned (.string (strB (textS l most s).1)) ∧ RfAt w' p A c l (textS l most s).2 ∧ Upd (fun k => k = p) w w' := by
  have H := Lib.hid h
  clear h
  have hcl := countS_le l most s
  have hok := countS_ok l most s
  unfold textS
  obtain ⟨m, em⟩ : ∃ m, m = (countS l most s).1 := ⟨_, rfl⟩
  obtain ⟨s2, es⟩ : ∃ s2, s2 = (countS l most s).2 := ⟨_, rfl⟩
  rw [← em] at hcl
  rw [← es] at hok
  rw [← em, ← es]
  have EM := Lib.hid em
  have ES := Lib.hid es
  have HCL := Lib.hid hcl
  have HOK := Lib.hid hok
  obtain ⟨x, ex⟩ : ∃ x, x = (rawS l m s2).1 := ⟨_, rfl⟩
  rw [← ex]
  have EX := Lib.hid ex
  clear em es hcl ex hok
  go_enter Try.func77, Try.ntmps77
  go_wp2_with fail
  refine (rfCount_g w p A c l s H.out hl most hmo).mono ?_
  rw [← EM.out, ← ES.out]
  rintro e w1 ⟨rfl, hw, hb⟩
  have H1 := Lib.hid hw
  have HB1 := Lib.hid hb
  clear hw hb
  go_wp2_with fail
  refine (rfRaw_g w1 p A c l s2 H1.out m (by have := HCL.out; omega) hl (fun h0 => .inr (by have := (HOK.out h0).2; omega))).mono ?_
  rw [← EX.out]
  rintro e w2 ⟨A2, c2, rfl, hr, _, hw, hb⟩
  have hst := run_string_RB (P := Try.prog) w2 37 9 5 Try.underlying37 Try.underlying5 Try.underlying9 A2 x.length c2 x rfl hr
  have H2 := Lib.hid hw
  have HB2 := Lib.hid (HB1.out.trans hb (fun _ _ h => h))
  clear hw hb hr
  go_wp2_with fail
  go_ret
  exact ⟨rfl, H2.out, HB2.out⟩

set_option maxHeartbeats 1000000 in
theorem rfEnd_g (w : World) (p : Nat) (A : Option Addr) (c : Nat) (l : List UInt8) (s : Rs) (h : RfAt w p A c l s) (hl : l.length ≤ 100000000) :
    Calls Try.prog 79 #[.pointer (some ⟨p, 0, none⟩)] w fun e w' => e = .returned (.tuple #[.int .i64 (endS l s).1, .int .i64 (endS l s).2]) ∧ Below w.heap.size w w' := by
  unfold endS
  have k0 := h.c0
  have k1 := h.c1
  have k3 := h.c3
  have k4 := h.c4
  by_cases h0 : s.why = 0
  · rw [if_neg (by simpa using h0)]
    have k2 := h.c2g h0
    by_cases h1 : s.a < l.length
    · rw [if_pos h1]
      have hlt : ((s.a : Int) < (l.length : Int)) := by omega
      clear h h0
      go_enter Try.func79, Try.ntmps79
      go_wp2_with fail
      go_region
      all_goals
        go_wp2_with fail
        go_region
        all_goals
          go_wp2_with fail
          go_ret2
          exact ⟨rfl, ((Below.refl _ _).drew).drew⟩
    · rw [if_neg h1]
      have hlt : ¬ ((s.a : Int) < (l.length : Int)) := by omega
      clear h h0
      go_enter Try.func79, Try.ntmps79
      go_wp2_with fail
      go_region
      all_goals
        go_wp2_with fail
        go_ret2
        exact ⟨rfl, (Below.refl _ _).drew⟩
  · rw [if_pos h0]
    have k2 := h.c2b h0
    clear h h0
    go_enter Try.func79, Try.ntmps79
    go_wp2_with fail
    go_region
    all_goals
      go_wp2_with fail
      go_ret2
      exact ⟨rfl, (Below.refl _ _).drew⟩
end Go.Proofs.Ythlbmjjodjepjaa
