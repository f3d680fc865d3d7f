/-
  The walks of package wire: contracts over two predicates, WriterAt and ReaderAt.
-/
import Derived.Test.YthlbmjjodjepjaaDisk
import Derived.Test.YthlbmjjodjepjaaPadded
import Derived.Test.YthlbmjjodjepjaaScope
import Derived.Test.YthlbmjjodjepjaaWalPure
import Derived.Test.YthlbmjjodjepjaaArr
set_option linter.unusedVariables false
set_option linter.unusedSimpArgs false
namespace Go.Proofs.Ythlbmjjodjepjaa
open Go.RowKit

/-- The lowest bytes of a number, the highest first: the first i of size. -/
def putPre (n size i : Nat) : List UInt8 := (List.range i).map fun j => byteAt n (8 * (size - 1 - j))
theorem putPre_snoc (n size i : Nat) : putPre n size (i + 1) = putPre n size i ++ [byteAt n (8 * (size - 1 - i))] := by simp [putPre, List.range_succ]
theorem putPre_length (n size i : Nat) : (putPre n size i).length = i := by simp [putPre]

/-- A writer at block p: its bytes (the row v, from block B on). -/
structure WriterAt (w : World) (B p : Nat) (v : Value) (b : List UInt8) : Prop where
  at_ : w.heap[p]? = some (.cells #[v] 121 (0, 0))
  own : w.ownsRow B 5 1 v b.length (bv b)
  ne : v.ownBlock ≠ some p
  base : B ≤ p

namespace WriterAt
variable {w w' : World} {B p : Nat} {v : Value} {b : List UInt8}
theorem lt (h : WriterAt w B p v b) : p < w.heap.size := (Array.getElem?_eq_some_iff.1 h.at_).1
theorem c0 (h : WriterAt w B p v b) : w.cell? ⟨p, 0, none⟩ = some v := by rw [cell_of_row w p 0 _ _ _ h.at_]; rfl
theorem f0 (h : WriterAt w B p v b) (j : Nat) : w.frozen? ⟨p, j, none⟩ = false := frozen_of_row w p j _ _ h.at_
theorem upd {F : Nat → Prop} (h : WriterAt w B p v b) (u : Upd F w w') (hp : ¬ F p) (hv : ∀ k, v.ownBlock = some k → ¬ F k) : WriterAt w' B p v b :=
  ⟨(u.block p h.lt hp).trans h.at_, own_upd h.own u hv, h.ne, h.base⟩
theorem below (h : WriterAt w B p v b) (hb : Below w.heap.size w w') : WriterAt w' B p v b := h.upd (Upd.of_below (F := fun _ => False) hb) id (fun _ _ => id)
theorem drew (h : WriterAt w B p v b) : WriterAt w.drew B p v b := ⟨h.at_, h.own, h.ne, h.base⟩
end WriterAt

set_option maxHeartbeats 400000 in
theorem newWriter_any (w : World) : Calls Try.prog 55 #[] w fun e w' =>
    e = .returned (.pointer (some ⟨w.heap.size, 0, none⟩)) ∧ WriterAt w' w.heap.size w.heap.size (.slice none 0 0) [] ∧ Below w.heap.size w w' := by
  go_enter Try.func55, Try.ntmps55
  go_wp2
  go_ret
  exact ⟨rfl, ⟨heap_alloc_new w _, World.ownsRow_nil _ _ _ _, by simp [Value.ownBlock], Nat.le_refl _⟩, (Below.refl _ _).alloc (Nat.le_refl _) _⟩

set_option maxHeartbeats 4000000 in
theorem put_any (w : World) (B p : Nat) (v : Value) (b : List UInt8) (h : WriterAt w B p v b) (n size : Nat) (hn : n < 18446744073709551616) (hs : size ≤ 8) (hbl : b.length ≤ 100000000) :
    Calls Try.prog 84 #[.pointer (some ⟨p, 0, none⟩), .int .u64 (n : Int), .int .i64 (size : Int)] w fun e w' => ∃ v', e = .returned (.tuple #[]) ∧ WriterAt w' B p v' (b ++ putPre n size size) ∧ Below B w w' := by
  have H := Lib.hid h
  clear h
  go_enter Try.func84, Try.ntmps84
  go_wp2
  refine wp_scope_loop 0 (fun a' w' => ∃ (i j : Nat) (v : Value) (u8 u9 u10 u11 u12 u13 u14 u15 u16 u17 u18 u19 u20 u21 u22 u23 u24 u25 : Value),
    a' = { tmps := #[.pointer (some ⟨p, 0, none⟩), .int .u64 (n : Int), .int .i64 (size : Int), undef, undef, undef, .int .i64 (j : Int), .int .i64 (size : Int), u8, u9, u10, u11, u12, u13, u14, u15, u16, u17, u18, u19, u20, u21, u22, u23, u24, u25], defers := [] } ∧
    i + j = size ∧ WriterAt w' B p v (b ++ putPre n size i) ∧ Below B w w') (fun a' _ => (intOf (a'.tmps.getD 6 undef)).toNat) rfl ?pass ?first
  case first =>
    intro hrest
    go_wp2
    go_step3
    rename_i hK
    refine hK _ _ (hrest _ _ ?_)
    refine ⟨0, size, v, _, _, _, _, _, _, _, _, _, _, _, _, _, _, _, _, _, _, rfl, by omega, ?_, Below.refl _ _⟩
    rw [show putPre n size 0 = [] from rfl, List.append_nil]
    exact H.out
  case pass =>
    rintro a' w' ⟨i, j, v, u8, u9, u10, u11, u12, u13, u14, u15, u16, u17, u18, u19, u20, u21, u22, u23, u24, u25, rfl, hij, hw, hb⟩
    clear H
    have H := Lib.hid hw
    have HB := Lib.hid hb
    clear hw hb
    by_cases h0 : j = 0
    · subst h0
      have hi : i = size := by omega
      subst hi
      go_wp2
      simp only [Exit.jump]
      refine bodyPost_ret (results_none rfl _ _ _) rfl ?_
      exact ⟨v, rfl, H.out, HB.out⟩
    · obtain ⟨j, rfl⟩ : ∃ m, j = m + 1 := ⟨j - 1, by omega⟩
      have h8 : size - 1 - i = j := by omega
      obtain ⟨z, hz⟩ : ∃ z : Int, z = 8 * (j : Int) := ⟨_, rfl⟩
      have hB : (n : Int) / 2 ^ z.toNat % 256 = un8 (byteAt n (8 * j)) := by
        rw [byteAt_un8, show z.toNat = 8 * j by omega, Int.natCast_emod, Int.natCast_ediv, Int.natCast_pow]
        rfl
      have hB2 : IntKind.u8.wrap ((n : Int) / 2 ^ z.toNat) = un8 (byteAt n (8 * j)) := by rw [IntKind.wrap_u8]; exact hB
      have hz0 : 0 ≤ z := by omega
      have hz1 : z ≤ 56 := by omega
      have hw8 : IntKind.i64.wrap (8 * (j : Int)) = z := by rw [IntKind.wrap_i64]; omega
      clear hz
      have hj0 : (0 : Int) ≤ (j : Int) := by omega
      have hj7 : (j : Int) ≤ 7 := by omega
      have hn0 : (0 : Int) ≤ (n : Int) := by omega
      have hn1 : (n : Int) ≤ 18446744073709551615 := by omega
      have HN := Lib.hid hn
      clear hn
      have HS := Lib.hid (putPre_snoc n size i)
      rw [h8] at HS
      have HIJ := Lib.hid hij
      have HLB := Lib.hid (putPre_length n size i)
      clear h0 hij h8
      generalize putPre n size i = pre at *
      generalize byteAt n (8 * j) = bb at *
      obtain ⟨A0, c0, rfl, _⟩ := own_slice H.out.own
      have h0 := H.out.c0
      have hlt := H.out.lt
      have hy : (b ++ pre).length ≤ 100000100 := by have := HLB.out; have := HIJ.out; rw [List.length_append]; omega
      have HY := Lib.hid (show (b ++ pre) ++ [bb] = b ++ (pre ++ [bb]) by simp)
      generalize b ++ pre = y at *
      go_upto_region 3 with fail
      go_region_law (refine step_append_any rfl (.tmp 16) (.tmp 22) 37 rfl B 5 (.int .u8 0) 1 1 Try.underlying37 info8 rfl (by omega) (by omega) (.slice A0 y.length c0) _ _ rfl (World.ownsRow.alloc (w := w'.drew) H.out.own _) _ 1 _ (bv [bb]) rfl rfl (RC_newL w'.drew (bv [bb]) 5) (bv_one _) (by omega) (by have := H.out.base; simp; omega) ?_; intro v1 w1 ho1 hg1 hat1; have hu : Upd (fun k => (Value.slice A0 y.length c0).ownBlock = some k) w' w1 := (((Upd.refl _ w').drew).alloc _).grown hg1 (fun k hk _ => hk); have hw1 := (hu.block p hlt (fun e => H.out.ne e)).trans H.out.at_; have k0 : w1.cell? ⟨p, 0, none⟩ = some (.slice A0 y.length c0) := (cell_of_row w1 p 0 _ _ _ hw1).trans rfl; have kf : w1.frozen? ⟨p, 0, none⟩ = false := frozen_of_row w1 p 0 _ _ hw1; obtain ⟨A1, c1, rfl, _⟩ := own_slice ho1)
      all_goals
        go_wp2_with fail
        go_step3
        have hne : (Value.slice A1 (y.length + 1) c1).ownBlock ≠ some p := by
          intro e
          rcases hat1 with h | h
          · exact H.out.ne (h ▸ e)
          · rw [h] at e; simp at e; omega
        have hb1 : Below B w (w1.setCell ⟨p, 0, none⟩ (.slice A1 (y.length + 1) c1)) := by
          refine (below_upd HB.out (by have := H.out.base; omega) hu (fun k hk => (World.ownsRow.lt H.out.own k hk).1)).setCell ?_ _
          exact H.out.base
        refine ⟨rfl, ⟨i + 1, j, _, _, _, _, _, _, _, _, _, _, _, _, _, _, _, _, _, _, _, rfl, by have := HIJ.out; omega, ⟨?_, ?_, hne, H.out.base⟩, hb1⟩, by simp [intOf]⟩
        · rw [setCell_at hw1]; rfl
        · rw [HS.out, ← HY.out, List.length_append, bv_append]
          exact own_setCell ho1 hne _

theorem byteAt_u32 (n k : Nat) : byteAt n k = UInt8.ofNat (n / 2 ^ k) := rfl
theorem putPre_four (n : Nat) : putPre n 4 4 = be4n n := by
  simp [putPre, be4n, List.range, List.range.loop, byteAt]

set_option maxHeartbeats 1000000 in
theorem writerFour_any (w : World) (B p : Nat) (v : Value) (b : List UInt8) (h : WriterAt w B p v b) (n : Nat) (hn : n < 9223372036854775808) (hbl : b.length ≤ 100000000) :
    Calls Try.prog 56 #[.pointer (some ⟨p, 0, none⟩), .int .i64 (n : Int)] w fun e w' => ∃ v', e = .returned (.tuple #[]) ∧ WriterAt w' B p v' (b ++ be4n n) ∧ Below B w w' := by
  have H := Lib.hid h
  have hn0 : (0 : Int) ≤ (n : Int) := by omega
  have hn1 : (n : Int) < 9223372036854775808 := by omega
  have HN := Lib.hid hn
  clear h hn
  have hw : IntKind.u64.wrap (n : Int) = (n : Int) := by rw [IntKind.wrap_u64]; omega
  go_enter Try.func56, Try.ntmps56
  go_wp2_with fail
  refine (put_any _ B p v b H.out n 4 (by have := HN.out; omega) (by omega) hbl).mono ?_
  rintro e w1 ⟨v1, rfl, hw1, hb1⟩
  rw [putPre_four] at hw1
  have HW := Lib.hid hw1
  have HB := Lib.hid hb1
  clear hw1 hb1
  go_wp2_with fail
  go_end0
  exact ⟨_, rfl, HW.out, HB.out⟩

set_option maxHeartbeats 1000000 in
theorem writerDone_any (w : World) (B p : Nat) (v : Value) (b : List UInt8) (h : WriterAt w B p v b) (hbl : b.length ≤ 100000000) :
    Calls Try.prog 57 #[.pointer (some ⟨p, 0, none⟩)] w fun e w' => ∃ x, e = .returned x ∧ w'.ownsRow w.heap.size 5 1 x b.length (bv b) ∧ Below w.heap.size w w' := by
  have hnil : ∀ A c, v = .slice A b.length c → A = none → c = 0 := by
    intro A c e1 e2
    subst e1
    subst e2
    rcases h.own.2 with ⟨h', _⟩ | ⟨g, cap, cur, h', _⟩
    · simp at h'; exact h'.2
    · simp at h'
  obtain ⟨A, c, rfl, _⟩ := own_slice h.own
  have hn := hnil A c rfl
  have h0 := h.c0
  have H := Lib.hid h
  have HN := Lib.hid hn
  clear h hn hnil
  go_enter Try.func57, Try.ntmps57
  go_wp2_with fail
  refine (clone8_any A _ c b _ rfl (by omega) (own_RC H.out.own).bytes HN.out).mono ?_
  rintro e w1 ⟨x, rfl, ho, hb⟩
  have HO := Lib.hid ho
  have HB := Lib.hid hb
  clear ho hb
  go_wp2_with fail
  go_ret
  exact ⟨_, rfl, HO.out, HB.out⟩

/-- A reader at block p: its bytes (the row v, from block B on), and how many are read; nothing is refused. -/
structure ReaderAt (w : World) (B p : Nat) (v : Value) (l : List UInt8) (a : Nat) : Prop where
  at_ : w.heap[p]? = some (.cells #[v, .int .i64 (a : Int), .int .i64 0, .int .i64 0] 125 (0, 0))
  own : w.ownsRow B 5 1 v l.length (bv l)
  ne : v.ownBlock ≠ some p
  base : B ≤ p

namespace ReaderAt
variable {w w' : World} {B p : Nat} {v : Value} {l : List UInt8} {a : Nat}
theorem lt (h : ReaderAt w B p v l a) : p < w.heap.size := (Array.getElem?_eq_some_iff.1 h.at_).1
theorem c0 (h : ReaderAt w B p v l a) : w.cell? ⟨p, 0, none⟩ = some v := by rw [cell_of_row w p 0 _ _ _ h.at_]; rfl
theorem c1 (h : ReaderAt w B p v l a) : w.cell? ⟨p, 1, none⟩ = some (.int .i64 (a : Int)) := by rw [cell_of_row w p 1 _ _ _ h.at_]; rfl
theorem c2 (h : ReaderAt w B p v l a) : w.cell? ⟨p, 2, none⟩ = some (.int .i64 0) := by rw [cell_of_row w p 2 _ _ _ h.at_]; rfl
theorem f0 (h : ReaderAt w B p v l a) (j : Nat) : w.frozen? ⟨p, j, none⟩ = false := frozen_of_row w p j _ _ h.at_
theorem upd {F : Nat → Prop} (h : ReaderAt w B p v l a) (u : Upd F w w') (hp : ¬ F p) (hv : ∀ k, v.ownBlock = some k → ¬ F k) : ReaderAt w' B p v l a :=
  ⟨(u.block p h.lt hp).trans h.at_, own_upd h.own u hv, h.ne, h.base⟩
theorem below (h : ReaderAt w B p v l a) (hb : Below w.heap.size w w') : ReaderAt w' B p v l a := h.upd (Upd.of_below (F := fun _ => False) hb) id (fun _ _ => id)
theorem drew (h : ReaderAt w B p v l a) : ReaderAt w.drew B p v l a := ⟨h.at_, h.own, h.ne, h.base⟩
end ReaderAt

set_option maxHeartbeats 1000000 in
theorem newReader_any (A : Option Addr) (n c : Nat) (l : List UInt8) (w : World) (hl : l.length = n) (hn : n ≤ 100000000) (hr : RB w A l) (hnil : A = none → c = 0) :
    Calls Try.prog 70 #[.slice A n c] w fun e w' => ∃ q v', e = .returned (.pointer (some ⟨q, 0, none⟩)) ∧ ReaderAt w' w.heap.size q v' l 0 ∧ Below w.heap.size w w' := by
  have HR := Lib.hid hr
  have HN := Lib.hid hnil
  clear hr hnil
  go_enter Try.func70, Try.ntmps70
  go_wp2_with fail
  refine (clone8_any A n c l _ hl (by omega) HR.out HN.out).mono ?_
  rintro e w1 ⟨x, rfl, ho, hb⟩
  subst hl
  obtain ⟨A1, c1, rfl, _⟩ := own_slice ho
  have HO := Lib.hid ho
  have HB := Lib.hid hb
  clear ho hb
  go_wp2_with fail
  go_ret
  refine ⟨_, _, rfl, ⟨heap_alloc_new w1 _, HO.out.alloc _, ?_, HB.out.size⟩, HB.out.alloc HB.out.size _⟩
  intro e
  have := (World.ownsRow.lt HO.out _ e).2
  omega

set_option maxHeartbeats 4000000 in
theorem take_any (w : World) (B p : Nat) (v : Value) (l : List UInt8) (a : Nat) (h : ReaderAt w B p v l a) (n : Nat) (h0 : 0 < n) (hn : a + n ≤ l.length) (hl : l.length ≤ 100000000) :
    Calls Try.prog 87 #[.pointer (some ⟨p, 0, none⟩), .int .i64 (n : Int)] w fun e w' => ∃ A c, e = .returned (.slice A n c) ∧ RB w' A ((l.drop a).take n) ∧ ReaderAt w' B p v l (a + n) ∧ Below B w w' := by
  obtain ⟨g, c0, rfl, hB, hc⟩ := own_form h.own (by omega)
  have k0 := h.c0
  have k1 := h.c1
  have k2 := h.c2
  have f1 := h.f0 1
  have hlt := h.lt
  have H := Lib.hid h
  clear h
  have hne : ¬ (c0 = a) := by omega
  have hw1 : IntKind.i64.wrap ((l.length : Int) - (a : Int)) = (l.length : Int) - (a : Int) := by rw [IntKind.wrap_i64]; omega
  have hw2 : ¬ ((l.length : Int) - (a : Int) < (n : Int)) := by omega
  go_enter Try.func87, Try.ntmps87
  go_wp2_with fail
  go_region
  go_wp2_with fail
  go_region
  go_wp2_with fail
  go_ret
  have hb1 : Below B w (w.setCell ⟨p, 1, none⟩ (.int .i64 ((a : Int) + (n : Int)))) := (Below.refl _ _).setCell H.out.base _
  refine ⟨some ⟨g, a, none⟩, c0 - a, (show Ending.returned (.slice (some ⟨g, a, none⟩) (a + n - a) (c0 - a)) = _ by rw [Nat.add_sub_cancel_left]), ?_, ⟨?_, own_setCell H.out.own H.out.ne _, H.out.ne, H.out.base⟩, hb1.drew.drew⟩
  · intro _
    refine ⟨_, rfl, fun j hj => ?_⟩
    have hj' : a + j < l.length := by simp at hj; omega
    have h1 := own_byte (own_setCell (j := 1) H.out.own H.out.ne (.int .i64 ((a : Int) + (n : Int)))) (a + j) hj'
    rw [add_off]
    refine Eq.trans ?_ (h1.trans ?_)
    · rfl
    · simp
  · exact (setCell_at H.out.at_ _).trans rfl

/-- The number of bytes, the highest first. -/
def numOf (l : List UInt8) : Nat := l.foldl (fun n x => n * 256 + x.toNat) 0
theorem numOf_snoc (l : List UInt8) (x : UInt8) : numOf (l ++ [x]) = numOf l * 256 + x.toNat := by simp [numOf]
theorem numOf_lt_from : ∀ (l : List UInt8) (n : Nat), l.foldl (fun n x => n * 256 + x.toNat) n < (n + 1) * 256 ^ l.length
  | [], n => by simp
  | x :: l, n => by
    have h := numOf_lt_from l (n * 256 + x.toNat)
    have hx := x.toNat_lt
    rw [List.foldl_cons, List.length_cons, Nat.pow_succ]
    refine Nat.lt_of_lt_of_le h ?_
    rw [Nat.mul_comm (256 ^ l.length) 256, ← Nat.mul_assoc]
    exact Nat.mul_le_mul_right _ (by omega)
theorem numOf_lt (l : List UInt8) : numOf l < 256 ^ l.length := by have := numOf_lt_from l 0; simpa [numOf] using this
theorem numOf_four (l : List UInt8) (h : 4 ≤ l.length) : numOf (l.take 4) = four l := by
  rcases l with _ | ⟨a, _ | ⟨b, _ | ⟨c, _ | ⟨d, l⟩⟩⟩⟩ <;> simp at h
  simp [numOf, four]

theorem or64_low (n : Nat) (x : UInt8) (h : n < 72057594037927936) : bits .or .u64 (((n * 256 : Nat) : Int)) (un8 x) = ((n * 256 + x.toNat : Nat) : Int) := by
  have hx := x.toNat_lt
  show IntKind.u64.wrap ((BitVec.ofInt 64 (((n * 256 : Nat) : Int)) ||| BitVec.ofInt 64 (un8 x)).toNat : Int) = _
  rw [show un8 x = ((x.toNat : Nat) : Int) from rfl, BitVec.ofInt_natCast, BitVec.ofInt_natCast, BitVec.toNat_or, BitVec.toNat_ofNat, BitVec.toNat_ofNat, Nat.mod_eq_of_lt (by omega), Nat.mod_eq_of_lt (by omega)]
  rw [show n * 256 ||| x.toNat = n * 256 + x.toNat by
    have := Nat.two_pow_add_eq_or_of_lt (i := 8) (b := x.toNat) (by omega) n
    rw [Nat.mul_comm n 256]
    exact this.symm]
  rw [IntKind.wrap_u64]
  omega

section
set_option maxHeartbeats 4000000 in
theorem get_any (w : World) (B p : Nat) (v : Value) (l : List UInt8) (a : Nat) (h : ReaderAt w B p v l a) (n : Nat) (h0 : 0 < n) (hn8 : n ≤ 7) (hn : a + n ≤ l.length) (hl : l.length ≤ 100000000) :
    Calls Try.prog 88 #[.pointer (some ⟨p, 0, none⟩), .int .i64 (n : Int)] w fun e w' => e = .returned (.int .u64 (numOf ((l.drop a).take n) : Nat)) ∧ ReaderAt w' B p v l (a + n) ∧ Below B w w' := by
  go_enter Try.func88, Try.ntmps88
  have hx : ((l.drop a).take n).length = n := by simp; omega
  obtain ⟨x, ex⟩ : ∃ x, x = (l.drop a).take n := ⟨_, rfl⟩
  rw [← ex] at hx ⊢
  go_wp2_with fail
  refine wp_scope_loop 0 (fun a' w' => ∃ (i c y : Nat) (A : Option Addr) (u8 u9 u10 u11 u12 u13 u14 u15 u16 u17 u18 u19 u20 u21 u22 u23 u24 u25 : Value),
    a' = { tmps := #[.pointer (some ⟨p, 0, none⟩), .int .i64 (n : Int), undef, undef, .int .u64 0, .int .u64 (y : Int), .slice A n c, .int .i64 (i : Int), u8, u9, u10, u11, u12, u13, u14, u15, u16, u17, u18, u19, u20, u21, u22, u23, u24, u25], defers := [] } ∧
    y = numOf (x.take i) ∧ i ≤ n ∧ RB w' A x ∧ ReaderAt w' B p v l (a + n) ∧ Below B w w') (fun a' _ => ((n : Int) - intOf (a'.tmps.getD 7 undef)).toNat) rfl ?pass ?first
  case first =>
    intro hrest
    go_wp2_with fail
    refine (take_any w B p v l a h n h0 hn hl).mono ?_
    rintro e w1 ⟨A, c, rfl, hr, hw, hb⟩
    rw [← ex] at hr
    have H := Lib.hid hw
    have HR := Lib.hid hr
    have HB := Lib.hid hb
    clear h hw hr hb
    go_wp2_with fail
    go_step3
    rename_i hK
    refine hK _ _ (hrest _ _ ?_)
    exact ⟨0, _, 0, _, _, _, _, _, _, _, _, _, _, _, _, _, _, _, _, _, _, _, rfl, by simp [numOf], by omega, HR.out, H.out, HB.out⟩
  case pass =>
    rintro a' w' ⟨i, c, y, A, u8, u9, u10, u11, u12, u13, u14, u15, u16, u17, u18, u19, u20, u21, u22, u23, u24, u25, rfl, hy, hi, hr, hw, hb⟩
    have H := Lib.hid hw
    have HR := Lib.hid hr
    have HB := Lib.hid hb
    clear h hw hr hb ex
    by_cases hlt : i < n
    · obtain ⟨b, o, rfl, hc⟩ := HR.out.parts (by omega)
      have k1 := hc i (by omega)
      have hs : numOf (x.take (i + 1)) = numOf (x.take i) * 256 + x[i].toNat := by
        rw [List.take_succ_eq_append_getElem (by omega), numOf_snoc]
      have hb1 : numOf (x.take i) < 72057594037927936 := by
        have h1 := numOf_lt (x.take i)
        have h2 : 256 ^ (x.take i).length ≤ 256 ^ 7 := Nat.pow_le_pow_right (by omega) (by rw [List.length_take]; omega)
        have h3 : 256 ^ 7 = 72057594037927936 := by decide
        omega
      rw [← hy] at hs hb1
      have ho := or64_low y x[i] hb1
      rw [← hs, Int.natCast_mul] at ho
      have HS := Lib.hid hs
      obtain ⟨y1, ey1⟩ : ∃ y1, y1 = numOf (x.take (i + 1)) := ⟨_, rfl⟩
      rw [← ey1] at ho
      have EY := Lib.hid ey1
      have hwb := un8_range x[i]
      have how : IntKind.u64.wrap (un8 x[i]) = un8 x[i] := by rw [IntKind.wrap_u64]; omega
      generalize x[i] = bb at *
      have hw1 : IntKind.u64.wrap ((y : Int) * 256) = (y : Int) * 256 := by rw [IntKind.wrap_u64]; omega
      clear hc hs hy hb1 ey1 hwb
      have ho' : bits .or .u64 ((y : Int) * 256) (un8 bb) = (y1 : Int) := ho
      clear ho
      go_wp2_with fail
      go_step3
      refine ⟨rfl, ⟨i + 1, _, y1, _, _, _, _, _, _, _, _, _, _, _, _, _, _, _, _, _, _, _, rfl, EY.out, by omega, HR.out, H.out, HB.out⟩, by simp [intOf]; omega⟩
    · obtain rfl : i = n := by omega
      rw [show x.take i = x from List.take_of_length_le (by omega)] at hy
      have HYY := Lib.hid hy
      clear hy
      go_wp2_with fail
      simp only [Exit.jump]
      go_ret
      exact ⟨by rw [← HYY.out]; rfl, H.out, HB.out⟩
end

set_option maxHeartbeats 1000000 in
theorem readerFour_any (w : World) (B p : Nat) (v : Value) (l : List UInt8) (a : Nat) (h : ReaderAt w B p v l a) (hn : a + 4 ≤ l.length) (hl : l.length ≤ 100000000) :
    Calls Try.prog 85 #[.pointer (some ⟨p, 0, none⟩)] w fun e w' => e = .returned (.int .i64 (four (l.drop a) : Nat)) ∧ ReaderAt w' B p v l (a + 4) ∧ Below B w w' := by
  have hf := numOf_four (l.drop a) (by simp; omega)
  have hlt := four_lt (l.drop a)
  rw [← hf] at hlt ⊢
  obtain ⟨y, ey⟩ : ∃ y, y = numOf ((l.drop a).take 4) := ⟨_, rfl⟩
  rw [← ey] at hlt ⊢
  go_enter Try.func85, Try.ntmps85
  go_wp2_with fail
  refine (get_any w B p v l a h 4 (by omega) (by omega) hn hl).mono ?_
  rw [← ey]
  rintro e w1 ⟨rfl, hw, hb⟩
  have H := Lib.hid hw
  have HB := Lib.hid hb
  clear hw hb h hf ey
  have hw : IntKind.i64.wrap (y : Int) = (y : Int) := by rw [IntKind.wrap_i64]; omega
  clear hlt
  go_wp2_with fail
  go_ret
  exact ⟨rfl, H.out, HB.out⟩

end Go.Proofs.Ythlbmjjodjepjaa
