/-
  The walks of the reference's writers: Four, Text, and Encode of a chain.
-/
import Derived.Test.YthlbmjjodjepjaaRefCheck
import Derived.Test.YthlbmjjodjepjaaChainWire
set_option linter.unusedVariables false
set_option linter.unusedSimpArgs false
namespace Go.Proofs.Ythlbmjjodjepjaa
open Go.RowKit

theorem be4_cells (m : Nat) (hm : m ≤ 2147483647) : bv (be4n m) = [.int .u8 ((m : Int) / 16777216), .int .u8 ((m : Int) / 65536 % 256), .int .u8 ((m : Int) / 256 % 256), .int .u8 ((m : Int) % 256)] := by
  have e : ∀ x : Nat, un8 (UInt8.ofNat x) = ((x % 256 : Nat) : Int) := fun x => by unfold un8; rw [UInt8.toNat_ofNat']
  show [Value.int .u8 (un8 (UInt8.ofNat (m / 16777216))), Value.int .u8 (un8 (UInt8.ofNat (m / 65536))), Value.int .u8 (un8 (UInt8.ofNat (m / 256))), Value.int .u8 (un8 (UInt8.ofNat m))] = _
  rw [e, e, e, e]
  have e1 : ((m / 16777216 % 256 : Nat) : Int) = (m : Int) / 16777216 := by omega
  have e2 : ((m / 65536 % 256 : Nat) : Int) = (m : Int) / 65536 % 256 := by omega
  have e3 : ((m / 256 % 256 : Nat) : Int) = (m : Int) / 256 % 256 := by omega
  have e4 : ((m % 256 : Nat) : Int) = (m : Int) % 256 := by omega
  rw [e1, e2, e3, e4]

set_option maxRecDepth 100000 in
set_option maxHeartbeats 4000000 in
theorem refFour_any (A : Option Addr) (n c : Nat) (b : List UInt8) (m : Nat) (w : World) (hl : b.length = n) (hb : b.length ≤ 100000000) (hr : RB w A b) (hm : m ≤ 2147483647) :
    Calls Try.prog 58 #[.slice A n c, .int .i64 (m : Int)] w fun e w' => ∃ v, e = .returned v ∧ w'.ownsRow w.heap.size 5 1 v (b.length + 4) (bv (b ++ be4n m)) ∧ Below w.heap.size w w' := by
  subst hl
  have HR := Lib.hid hr
  clear hr
  have hb0 : Below w.heap.size w (w.alloc (.cells #[] 5)) := (Below.refl _ _).alloc (Nat.le_refl _) _
  have E0 := Lib.hid (show (w.alloc (.cells #[] 5)).ownsRow w.heap.size 5 1 (.slice (some ⟨w.heap.size, 0, none⟩) 0 0) 0 [] from
    ⟨rfl, .inr ⟨_, 0, #[], rfl, Nat.le_refl _, heap_alloc_new w _, Nat.le_refl _, by simp [maxLen], rfl, rfl⟩⟩)
  have HB0 := Lib.hid hb0
  clear hb0
  go_enter Try.func58, Try.ntmps58
  go_wp2_with (at_builtin; refine append_any rfl (.tmp 5) (.tmp 6) 37 rfl w.heap.size 5 (.int .u8 0) 1 1 Try.underlying37 info8 rfl (by omega) (by omega) (.slice (some ⟨w.heap.size, 0, none⟩) 0 0) 0 [] rfl E0.out A b.length c (bv b) rfl (by rw [bv_length]; omega) (HR.out.below HB0.out).cells (bv_one _) (by omega) HB0.out.size ?_)
  intro v4 w4 ho4 hg4 hat4
  obtain ⟨A4, c4, rfl, _⟩ := own_slice ho4
  have ho4' : w4.ownsRow w.heap.size 5 1 (.slice A4 b.length c4) b.length (bv b) := ho4
  have HB4 := Lib.hid (below_upd (F := fun k => k = w.heap.size) HB0.out HB0.out.size ((Upd.refl (fun k => k = w.heap.size) (w.alloc (.cells #[] 5))).grown hg4 (fun k hk _ => (Option.some.inj (show some w.heap.size = some k from hk)).symm)) (fun k hk => by rw [hk]; exact Nat.le_refl _))
  have HC := Lib.hid (be4_cells m hm)
  have HO4 := Lib.hid ho4'
  clear ho4 ho4' hg4 hat4
  go_wp2_with (at_builtin; refine append_any rfl (.tmp 7) (.tmp 19) 37 rfl w.heap.size 5 (.int .u8 0) 1 1 Try.underlying37 info8 rfl (by omega) (by omega) (.slice A4 b.length c4) b.length (bv b) rfl (HO4.out.alloc _) (some ⟨w4.heap.size, 0, none⟩) 4 4 [.int .u8 ((m : Int) / 16777216), .int .u8 ((m : Int) / 65536 % 256), .int .u8 ((m : Int) / 256 % 256), .int .u8 ((m : Int) % 256)] rfl rfl (RC_newL w4 _ _) (by rw [← HC.out]; exact bv_one _) (by omega) (by have := HB4.out.size; simp; omega) ?_)
  intro v5 w5 ho5 hg5 hat5
  have HB5 := Lib.hid (below_upd (F := fun k => (Value.slice A4 b.length c4).ownBlock = some k) HB4.out HB4.out.size (((Upd.refl (fun k => (Value.slice A4 b.length c4).ownBlock = some k) w4).alloc _).grown hg5 (fun k hk _ => hk)) (fun k hk => (HO4.out.lt k hk).1))
  have HO5 := Lib.hid (show w5.ownsRow w.heap.size 5 1 v5 (b.length + 4) (bv (b ++ be4n m)) by rw [bv_append, HC.out]; simpa using ho5)
  clear ho5 hg5 hat5
  go_wp2_with fail
  go_ret
  exact ⟨_, rfl, HO5.out, HB5.out⟩

set_option maxRecDepth 100000 in
set_option maxHeartbeats 4000000 in
theorem refText_any (A : Option Addr) (n c : Nat) (b : List UInt8) (s : List UInt8) (w : World) (hl : b.length = n) (hb : b.length ≤ 90000000) (hr : RB w A b) (hs : s.length ≤ 1000000) :
    Calls Try.prog 69 #[.slice A n c, .string (strB s)] w fun e w' => ∃ v, e = .returned v ∧ w'.ownsRow w.heap.size 5 1 v (b.length + 4 + s.length) (bv (b ++ be4n s.length ++ s)) ∧ Below w.heap.size w w' := by
  subst hl
  have HR := Lib.hid hr
  have HSZ := Lib.hid (strB_size s)
  have HSL := Lib.hid (show Lib.strCells (strB s) = bv s by rw [strCells_bv, strB_toList])
  obtain ⟨i8, hi8, hz8⟩ := Option.map_eq_some_iff.1 info8
  simp only [Prod.mk.injEq] at hz8
  have HI8 := Lib.hid hi8
  have HZ8 := Lib.hid hz8
  obtain ⟨z, hz⟩ : ∃ z, z = strB s := ⟨_, rfl⟩
  rw [← hz] at HSZ HSL ⊢
  clear hr hi8 hz8 hz
  go_enter Try.func69, Try.ntmps69
  go_wp2_with fail
  rw [HSZ.out]
  refine (refFour_any A b.length c b s.length w rfl (by omega) HR.out (by omega)).mono ?_
  rintro e w1 ⟨v1, rfl, ho, hb1⟩
  obtain ⟨A1, c1, rfl, _⟩ := own_slice ho
  have HO := Lib.hid ho
  have HB1 := Lib.hid hb1
  clear ho hb1
  go_wp2_with (at_builtin; refine wpList_append_str rfl (.tmp 8) (.tmp 9) 37 9 rfl w.heap.size 5 i8 Try.underlying37 Try.underlying9 HI8.out HZ8.out.1 HZ8.out.2.1 HZ8.out.2.2 (.slice A1 (b.length + 4) c1) (b.length + 4) (bv (b ++ be4n s.length)) rfl HO.out (by omega) z rfl (by rw [HSZ.out]; omega) HB1.out.size ?_)
  intro v5 w5 ho5 hg5 hat5
  have HB5 := Lib.hid (below_upd (F := fun k => (Value.slice A1 (b.length + 4) c1).ownBlock = some k) HB1.out HB1.out.size ((Upd.refl (fun k => (Value.slice A1 (b.length + 4) c1).ownBlock = some k) w1).grown hg5 (fun k hk _ => hk)) (fun k hk => (HO.out.lt k hk).1))
  have HO5 := Lib.hid (show w5.ownsRow w.heap.size 5 1 v5 (b.length + 4 + s.length) (bv (b ++ be4n s.length ++ s)) by rw [bv_append, ← HSL.out, ← HSZ.out]; rw [HSZ.out] at ho5 ⊢; exact ho5)
  clear ho5 hg5 hat5
  go_wp2_with fail
  go_ret
  exact ⟨_, rfl, HO5.out, HB5.out⟩
end Go.Proofs.Ythlbmjjodjepjaa
