/-
  The texts Disk, Padded, Scope, SumPure, WalPure, Wire, Crc, WalFrame, Outline, Wal, Recs of this proof in one (what is used of them): what each proves is said at its head. No conditions beyond those that each theorem says.
-/
import Derived.BigRegion
import Derived.ScopeJumps
import Derived.WalkMore
import Derived.Lib.AppendStr
import Derived.OwnWalk
import Derived.Test.YtjakhemolecbnaaNA

/-
  The walks of package disk: contracts of its functions over one predicate, DiskAt.
-/
section
set_option linter.unusedVariables false
set_option linter.unusedSimpArgs false
namespace Go.Proofs.Ytjakhemolecbnaa
open Go.RowKit

set_option maxHeartbeats 1000000 in
/-- slices.Clone of bytes: a row of its own that reads the same. -/
theorem clone8_any (A : Option Addr) (n c : Nat) (l : List UInt8) (w : World) (hl : l.length = n) (hn : n ≤ 140737488355328) (hr : RB w A l) (hnil : A = none → c = 0) :
    Calls Try.prog 69 #[.slice A n c] w fun e w' => ∃ v, e = .returned v ∧ w'.ownsRow w.heap.size 5 1 v l.length (bv l) ∧ Below w.heap.size w w' := by
  subst hl
  rcases A with _ | ad
  · have h0 : l = [] := by
      rcases l with _ | ⟨x, l⟩
      · rfl
      · obtain ⟨ad, h, _⟩ := hr (by simp)
        cases h
    subst h0
    obtain rfl := hnil rfl
    clear hr hnil
    have he := fun w => Lib.run_eql_slice_nil (P := Try.prog) w 25 5 none 0 0 0 0 Try.underlying25
    go_enter Try.func69, Try.ntmps69
    go_wp2
    go_ret
    exact ⟨_, rfl, World.ownsRow_nil _ _ _ _, Below.refl _ _⟩
  · clear hnil
    have HR := Lib.hid hr
    clear hr
    have he := fun w => Lib.run_eql_slice_nil (P := Try.prog) w 25 5 (some ad) l.length c 0 0 Try.underlying25
    go_enter Try.func69, Try.ntmps69
    go_wp2_with (at_builtin; refine append_bytes rfl _ _ 25 rfl w.heap.size 5 Try.underlying25 info8 _ [] rfl (World.ownsRow_lit w #[] 0 (Nat.le_refl _) (by simp [maxLen]) rfl) _ _ _ l rfl rfl (HR.out.below ((Below.refl _ _).alloc (Nat.le_refl _) _)) ?c1 ?c2 ?_)
    case c1 => simp; omega
    case c2 => simp
    intro v w1 ho hg hat
    have HO := Lib.hid ho
    have HG := Lib.hid hg
    clear ho hg hat
    go_wp2
    go_ret
    exact ⟨_, rfl, by simpa using HO.out, ((Below.refl _ _).alloc (Nat.le_refl _) _).grown HG.out (by simp) (fun k hk => by simp [Value.ownBlock] at hk; omega)⟩

namespace DiskAt
variable {w w' : World} {B p : Nat} {v : Value} {b : List UInt8} {safe : Nat}
end DiskAt

theorem setCell_at {w : World} {p j : Nat} {cs : Array Value} {t : TypeId} {fr : Nat × Nat} (h : w.heap[p]? = some (.cells cs t fr)) (u : Value) : (w.setCell ⟨p, j, none⟩ u).heap[p]? = some (.cells (cs.setIfInBounds j u) t fr) := by
  simp [World.setCell, Array.getElem?_modify, h]
theorem own_setCell {w : World} {p j : Nat} {base n : Nat} {e : TypeId} {size : Nat} {v : Value} {xs : List Value} (h : w.ownsRow base e size v n xs) (hne : v.ownBlock ≠ some p) (u : Value) : (w.setCell ⟨p, j, none⟩ u).ownsRow base e size v n xs :=
  own_upd h ((Upd.refl (fun k => k = p) w).setCell (fun _ => rfl) u) (fun k hk e => hne (by rw [hk, e]))

end Go.Proofs.Ytjakhemolecbnaa
end

/-
  The walk of sum.padded.
-/
section
set_option linter.unusedVariables false
set_option linter.unusedSimpArgs false
namespace Go.Proofs.Ytjakhemolecbnaa
open Go.RowKit

/-- Bytes, the mark, and j noughts. -/
def padA (l : List UInt8) (j : Nat) : List UInt8 := l ++ 128 :: List.replicate j 0
theorem padA_length (l : List UInt8) (j : Nat) : (padA l j).length = l.length + 1 + j := by simp [padA]; omega
theorem padA_zero (l : List UInt8) : padA l 0 = l ++ [128] := rfl
theorem padA_snoc (l : List UInt8) (j : Nat) : padA l (j + 1) = padA l j ++ [0] := by simp [padA, List.replicate_succ']
theorem padOf_eq (l : List UInt8) : padOf l = padA l (padZ l.length) ++ lenBytes (l.length * 8) 8 := by simp [padOf, padA]
theorem lenBytes_snoc (n i : Nat) : lenBytes n (i + 1) = lenBytes n i ++ [byteAt n (56 - 8 * i)] := by simp [lenBytes, List.range_succ]
theorem u64_len (n : Nat) (h : n ≤ 100000000) : IntKind.u64.wrap (n : Int) = (n : Int) := by
  rw [IntKind.wrap_u64]; omega
theorem byteAt_un8 (n k : Nat) : un8 (byteAt n k) = ((n / 2 ^ k % 256 : Nat) : Int) := by
  unfold un8 byteAt
  rw [show ∀ m : Nat, (UInt8.ofNat m).toNat = m % 256 from fun m => UInt8.toNat_ofNat']

set_option maxHeartbeats 2000000 in
theorem padded_any (A : Option Addr) (n c : Nat) (l : List UInt8) (w : World) (hl : l.length = n) (hn : n ≤ 100000000) (hr : RB w A l) :
    Calls Try.prog 90 #[.slice A n c] w fun e w' => ∃ v, e = .returned v ∧ w'.ownsRow w.heap.size 5 1 v (padOf l).length (bv (padOf l)) ∧ Below w.heap.size w w' := by
  subst hl
  have HR := Lib.hid hr
  clear hr
  go_enter Try.func90, Try.ntmps90
  go_wp2_with (at_builtin; refine append_bytes rfl _ _ 25 rfl w.heap.size 5 Try.underlying25 info8 _ [] rfl (World.ownsRow_lit w #[] 0 (Nat.le_refl _) (by simp [maxLen]) rfl) _ _ _ l rfl rfl (HR.out.below ((Below.refl _ _).alloc (Nat.le_refl _) _)) ?c1 ?c2 ?_)
  case c1 => simp; omega
  case c2 => simp
  intro v w1 ho hg hat
  have ho' : w1.ownsRow w.heap.size 5 1 v l.length (bv l) := by simpa using ho
  have HO := Lib.hid ho'
  have hb1 : Below w.heap.size w w1 := ((Below.refl _ _).alloc (Nat.le_refl _) _).grown hg (by simp) (fun k hk => by simp [Value.ownBlock] at hk; omega)
  have HB := Lib.hid hb1
  clear hb1
  clear ho ho' hg hat
  go_wp2_with (at_builtin; refine append_bytes rfl _ _ 25 rfl w.heap.size 5 Try.underlying25 info8 _ l rfl (HO.out.alloc _) _ 1 _ [128] rfl rfl (RB_new w1 [128] 5) ?c1 ?c2 ?_)
  case c1 => omega
  case c2 => have := HB.out.size; simp; omega
  intro v2 w2 ho2 hg2 hat2
  have ho2' : w2.ownsRow w.heap.size 5 1 v2 (padA l 0).length (bv (padA l 0)) := by rw [padA_zero, List.length_append]; exact ho2
  have HO2 := Lib.hid ho2'
  have hb2 : Below w.heap.size w w2 := (HB.out.alloc HB.out.size _).grown hg2 (by have := HB.out.size; simp; omega) (fun k hk => (World.ownsRow.lt HO.out k hk).1)
  have HB2 := Lib.hid hb2
  clear ho2 ho2' hg2 hat2 hb2 HO HB
  go_wp2_with fail
  go_loopg [3] (padZ l.length) (fun k s3 wr => ∃ j : Nat, j ≤ padZ l.length ∧ k = padZ l.length - j ∧ wr.ownsRow w.heap.size 5 1 s3 (padA l j).length (bv (padA l j)) ∧ Below w.heap.size w wr)
  case atStart => exact ⟨0, Nat.zero_le _, by omega, HO2.out, HB2.out⟩
  case round =>
    obtain ⟨j, hj, hk, hown, hb⟩ := hrel
    have hp64 := padZ_lt l.length
    clear HO2 HB2 hp64
    obtain ⟨A3, c3, rfl, _⟩ := own_slice hown
    by_cases hlt : j < padZ l.length
    · have hne : (((padA l j).length : Int) % 64 != 56) = true := by
        rw [padA_length, bne_iff_ne]; have := padZ_not l.length j hlt; omega
      have hlen : (padA l j).length ≤ 100000065 := by rw [padA_length]; have := padZ_lt l.length; omega
      have HK := Lib.hid hk
      have HO := Lib.hid hown
      have HB := Lib.hid hb
      have HLT := Lib.hid hlt
      clear hk hown hb hlt
      go_wp2_with (at_builtin; refine append_bytes rfl _ _ 25 rfl w.heap.size 5 Try.underlying25 info8 _ (padA l j) rfl (HO.out.alloc _) _ 1 _ [0] rfl rfl (RB_new wr [0] 5) ?c1 ?c2 ?_)
      case c1 => omega
      case c2 => have := HB.out.size; simp; omega
      intro v3 w3 ho3 hg3 _
      have hb3 : Below w.heap.size w w3 := (HB.out.alloc HB.out.size _).grown hg3 (by have := HB.out.size; simp; omega) (fun k hk => (World.ownsRow.lt HO.out k hk).1)
      have HO3 := Lib.hid ho3
      have HB3 := Lib.hid hb3
      clear ho3 hg3 hb3
      go_wp2_with fail
      go_roundg (padZ l.length - (j + 1))
      case measure => have := HK.out; have := HLT.out; omega
      case rel =>
        refine ⟨j + 1, HLT.out, rfl, ?_, HB3.out⟩
        rw [padA_snoc, List.length_append]; exact HO3.out
    · obtain rfl : j = padZ l.length := by omega
      have heq : (((padA l (padZ l.length)).length : Int) % 64 != 56) = false := by
        rw [padA_length, bne_eq_false_iff_eq]; have := padZ_done l.length; omega
      have hlen : (padA l (padZ l.length)).length ≤ 100000065 := by rw [padA_length]; have := padZ_lt l.length; omega
      have HP := Lib.hid (padOf_eq l)
      generalize padA l (padZ l.length) = la at *
      have HO := Lib.hid hown
      have HB := Lib.hid hb
      clear hown hb hk hj hlt
      have hu := u64_len l.length hn
      go_wp2_with fail
      go_loopg [3, 5] 9 (fun k s3 s5 wr => ∃ i : Nat, i ≤ 8 ∧ k = 9 - i ∧ (∃ z : Int, z = 56 - 8 * (i : Int) ∧ s5 = .int .i64 z) ∧ wr.ownsRow w.heap.size 5 1 s3 (la ++ lenBytes (l.length * 8) i).length (bv (la ++ lenBytes (l.length * 8) i)) ∧ Below w.heap.size w wr)
      case atStart => exact ⟨0, Nat.zero_le _, by omega, ⟨56, by omega, rfl⟩, by rw [show lenBytes (l.length * 8) 0 = [] from rfl, List.append_nil]; exact HO.out, HB.out⟩
      case round =>
        obtain ⟨i, hi, hk, ⟨z, hz, rfl⟩, hown, hb⟩ := hrel
        clear HO HB
        have hlb : (lenBytes (l.length * 8) i).length = i := lenBytes_length _ _
        have HK := Lib.hid hk
        have HO := Lib.hid hown
        have HB := Lib.hid hb
        clear hk hown hb
        by_cases hlt : i < 8
        · have hz0 : 0 ≤ z := by omega
          have hz1 : z ≤ 56 := by omega
          have hB : (l.length : Int) * 8 / 2 ^ z.toNat % 256 = un8 (byteAt (l.length * 8) (56 - 8 * i)) := by
            rw [byteAt_un8, show z.toNat = 56 - 8 * i by omega, Int.natCast_emod, Int.natCast_ediv, Int.natCast_pow, Int.natCast_mul]
            rfl
          have HS := Lib.hid (lenBytes_snoc (l.length * 8) i)
          have HZ := Lib.hid hz
          have HLT := Lib.hid hlt
          have HI := Lib.hid hi
          clear hz hlt hi
          generalize lenBytes (l.length * 8) i = lb at *
          generalize byteAt (l.length * 8) (56 - 8 * i) = bb at *
          have HLB := Lib.hid hlb
          go_wp2_with (at_builtin; refine append_bytes rfl _ _ 25 rfl w.heap.size 5 Try.underlying25 info8 _ (la ++ lb) rfl (HO.out.alloc _) _ 1 _ [bb] rfl rfl (RB_new wr [bb] 5) ?c1 ?c2 ?_)
          case c1 => have := HI.out; simp; omega
          case c2 => have := HB.out.size; simp; omega
          intro v3 w3 ho3 hg3 _
          have hb3 : Below w.heap.size w w3 := (HB.out.alloc HB.out.size _).grown hg3 (by have := HB.out.size; simp; omega) (fun k hk => (World.ownsRow.lt HO.out k hk).1)
          have HO3 := Lib.hid ho3
          have HB3 := Lib.hid hb3
          clear ho3 hg3 hb3
          go_wp2_with fail
          go_roundg (9 - (i + 1))
          case measure => have := HK.out; have := HLT.out; omega
          case rel =>
            refine ⟨i + 1, HLT.out, rfl, ⟨_, ?_, rfl⟩, ?_, HB3.out⟩
            · have := HZ.out; omega
            · have := HLB.out; rw [HS.out, show (la ++ (lb ++ [bb])).length = la.length + i + 1 by simp; omega]; exact HO3.out
        · obtain rfl : i = 8 := by omega
          obtain rfl : z = -8 := by omega
          rw [← HP.out] at HO
          clear hlb
          go_wp2_with fail
          go_ret
          exact ⟨_, rfl, HO.out, HB.out⟩

end Go.Proofs.Ytjakhemolecbnaa
end

/-
  A loop made by a label and a goto: what holds at the label is shown once.
-/
section
set_option linter.unusedVariables false
set_option linter.unusedSimpArgs false
namespace Go.Proofs.Ytjakhemolecbnaa
open Go.RowKit

def intOf : Value → Int | .int _ q => q | _ => 0

theorem wp_scope_loop {P : Program} {a : Act} {w : World} {Q : Exit → Act → World → Prop} {c X : Code} (l : Nat) (J : Act → World → Prop) (μ : Act → World → Nat) (hf : findLabel c l = some (Code.skip.seq X))
    (pass : ∀ a w, J a w → X.wp P (Exit.jump l (fun a' w' => J a' w' ∧ μ a' w' < μ a w) Q) a w)
    (first : (∀ a w, J a w → X.wp P (Exit.jump l J Q) a w) → c.wp P (Exit.jump l J Q) a w) : (Code.scope c).wp P Q a w := by
  refine wp_scope_jumps l J μ hf (first fun a w hJ => wp_mono (pass a w hJ) fun e a' w' h => ?_) (fun a w hJ => wp_seq (wp_skip (pass a w hJ)))
  cases e with
  | goto l' => exact ⟨h.1, h.2.1⟩
  | normal => exact h
  | exit _ => exact h
  | ret => exact h
  | panic _ => exact h
  | outgrown => exact h

end Go.Proofs.Ytjakhemolecbnaa
end

/-
  The CRC as a plain function; what is turned in one byte turns it.
-/
section
set_option linter.unusedVariables false
set_option linter.unusedSimpArgs false
namespace Go.Proofs.Ytjakhemolecbnaa

theorem shr_one_nat (c : UInt32) : (c >>> 1).toNat = c.toNat / 2 := by
  rw [UInt32.toNat_shiftRight]
  show c.toNat >>> 1 = _
  rw [Nat.shiftRight_succ, Nat.shiftRight_zero]

end Go.Proofs.Ytjakhemolecbnaa
end

/-
  Frames of records as plain functions: how they are made, and scanned.
-/
section
set_option linter.unusedVariables false
set_option linter.unusedSimpArgs false
namespace Go.Proofs.Ytjakhemolecbnaa

/-- Four bytes of a number, the highest first. -/
def be4n (n : Nat) : List UInt8 := [UInt8.ofNat (n / 16777216), UInt8.ofNat (n / 65536), UInt8.ofNat (n / 256), UInt8.ofNat n]
theorem be4n_length (n : Nat) : (be4n n).length = 4 := rfl
/-- The number of the first four bytes. -/
def four : List UInt8 → Nat
  | a :: b :: c :: d :: _ => ((a.toNat * 256 + b.toNat) * 256 + c.toNat) * 256 + d.toNat
  | _ => 0
theorem four_be4 (n : Nat) (h : n < 4294967296) (t : List UInt8) : four (be4n n ++ t) = n := by
  simp only [be4n, four, List.cons_append, UInt8.toNat_ofNat']
  omega
end Go.Proofs.Ytjakhemolecbnaa
end

/-
  The walks of package wire: contracts over two predicates, WriterAt and ReaderAt.
-/
section
set_option linter.unusedVariables false
set_option linter.unusedSimpArgs false
namespace Go.Proofs.Ytjakhemolecbnaa
open Go.RowKit

/-- A writer at block p: its bytes (the row v, from block B on). -/
structure WriterAt (w : World) (B p : Nat) (v : Value) (b : List UInt8) : Prop where
  at_ : w.heap[p]? = some (.cells #[v] 131 (0, 0))
  own : w.ownsRow B 5 1 v b.length (bv b)
  ne : v.ownBlock ≠ some p
  base : B ≤ p

namespace WriterAt
variable {w w' : World} {B p : Nat} {v : Value} {b : List UInt8}
theorem lt (h : WriterAt w B p v b) : p < w.heap.size := (Array.getElem?_eq_some_iff.1 h.at_).1
theorem c0 (h : WriterAt w B p v b) : w.cell? ⟨p, 0, none⟩ = some v := by rw [cell_of_row w p 0 _ _ _ h.at_]; rfl
theorem f0 (h : WriterAt w B p v b) (j : Nat) : w.frozen? ⟨p, j, none⟩ = false := frozen_of_row w p j _ _ h.at_
theorem upd {F : Nat → Prop} (h : WriterAt w B p v b) (u : Upd F w w') (hp : ¬ F p) (hv : ∀ k, v.ownBlock = some k → ¬ F k) : WriterAt w' B p v b :=
  ⟨(u.block p h.lt hp).trans h.at_, own_upd h.own u hv, h.ne, h.base⟩
theorem below (h : WriterAt w B p v b) (hb : Below w.heap.size w w') : WriterAt w' B p v b := h.upd (Upd.of_below (F := fun _ => False) hb) id (fun _ _ => id)
theorem drew (h : WriterAt w B p v b) : WriterAt w.drew B p v b := ⟨h.at_, h.own, h.ne, h.base⟩
end WriterAt

/-- A reader at block p: its bytes (the row v, from block B on), and how many are read; nothing is refused. -/
structure ReaderAt (w : World) (B p : Nat) (v : Value) (l : List UInt8) (a : Nat) : Prop where
  at_ : w.heap[p]? = some (.cells #[v, .int .i64 (a : Int), .int .i64 0, .int .i64 0] 127 (0, 0))
  own : w.ownsRow B 5 1 v l.length (bv l)
  ne : v.ownBlock ≠ some p
  base : B ≤ p

namespace ReaderAt
variable {w w' : World} {B p : Nat} {v : Value} {l : List UInt8} {a : Nat}
theorem lt (h : ReaderAt w B p v l a) : p < w.heap.size := (Array.getElem?_eq_some_iff.1 h.at_).1
theorem c0 (h : ReaderAt w B p v l a) : w.cell? ⟨p, 0, none⟩ = some v := by rw [cell_of_row w p 0 _ _ _ h.at_]; rfl
theorem c1 (h : ReaderAt w B p v l a) : w.cell? ⟨p, 1, none⟩ = some (.int .i64 (a : Int)) := by rw [cell_of_row w p 1 _ _ _ h.at_]; rfl
theorem c2 (h : ReaderAt w B p v l a) : w.cell? ⟨p, 2, none⟩ = some (.int .i64 0) := by rw [cell_of_row w p 2 _ _ _ h.at_]; rfl
theorem f0 (h : ReaderAt w B p v l a) (j : Nat) : w.frozen? ⟨p, j, none⟩ = false := frozen_of_row w p j _ _ h.at_
theorem upd {F : Nat → Prop} (h : ReaderAt w B p v l a) (u : Upd F w w') (hp : ¬ F p) (hv : ∀ k, v.ownBlock = some k → ¬ F k) : ReaderAt w' B p v l a :=
  ⟨(u.block p h.lt hp).trans h.at_, own_upd h.own u hv, h.ne, h.base⟩
theorem below (h : ReaderAt w B p v l a) (hb : Below w.heap.size w w') : ReaderAt w' B p v l a := h.upd (Upd.of_below (F := fun _ => False) hb) id (fun _ _ => id)
theorem drew (h : ReaderAt w B p v l a) : ReaderAt w.drew B p v l a := ⟨h.at_, h.own, h.ne, h.base⟩
end ReaderAt

set_option maxHeartbeats 1000000 in
theorem newReader_any (A : Option Addr) (n c : Nat) (l : List UInt8) (w : World) (hl : l.length = n) (hn : n ≤ 100000000) (hr : RB w A l) (hnil : A = none → c = 0) :
    Calls Try.prog 37 #[.slice A n c] w fun e w' => ∃ q v', e = .returned (.pointer (some ⟨q, 0, none⟩)) ∧ ReaderAt w' w.heap.size q v' l 0 ∧ Below w.heap.size w w' := by
  have HR := Lib.hid hr
  have HN := Lib.hid hnil
  clear hr hnil
  go_enter Try.func37, Try.ntmps37
  go_wp2_with fail
  refine (clone8_any A n c l _ hl (by omega) HR.out HN.out).mono ?_
  rintro e w1 ⟨x, rfl, ho, hb⟩
  subst hl
  obtain ⟨A1, c1, rfl, _⟩ := own_slice ho
  have HO := Lib.hid ho
  have HB := Lib.hid hb
  clear ho hb
  go_wp2_with fail
  go_ret
  refine ⟨_, _, rfl, ⟨heap_alloc_new w1 _, HO.out.alloc _, ?_, HB.out.size⟩, HB.out.alloc HB.out.size _⟩
  intro e
  have := (World.ownsRow.lt HO.out _ e).2
  omega

/-- The number of bytes, the highest first. -/
def numOf (l : List UInt8) : Nat := l.foldl (fun n x => n * 256 + x.toNat) 0
theorem numOf_snoc (l : List UInt8) (x : UInt8) : numOf (l ++ [x]) = numOf l * 256 + x.toNat := by simp [numOf]
theorem numOf_lt_from : ∀ (l : List UInt8) (n : Nat), l.foldl (fun n x => n * 256 + x.toNat) n < (n + 1) * 256 ^ l.length
  | [], n => by simp
  | x :: l, n => by
    have h := numOf_lt_from l (n * 256 + x.toNat)
    have hx := x.toNat_lt
    rw [List.foldl_cons, List.length_cons, Nat.pow_succ]
    refine Nat.lt_of_lt_of_le h ?_
    rw [Nat.mul_comm (256 ^ l.length) 256, ← Nat.mul_assoc]
    exact Nat.mul_le_mul_right _ (by omega)
theorem numOf_lt (l : List UInt8) : numOf l < 256 ^ l.length := by have := numOf_lt_from l 0; simpa [numOf] using this
theorem numOf_four (l : List UInt8) (h : 4 ≤ l.length) : numOf (l.take 4) = four l := by
  rcases l with _ | ⟨a, _ | ⟨b, _ | ⟨c, _ | ⟨d, l⟩⟩⟩⟩ <;> simp at h
  simp [numOf, four]

theorem or64_low (n : Nat) (x : UInt8) (h : n < 72057594037927936) : bits .or .u64 (((n * 256 : Nat) : Int)) (un8 x) = ((n * 256 + x.toNat : Nat) : Int) := by
  have hx := x.toNat_lt
  show IntKind.u64.wrap ((BitVec.ofInt 64 (((n * 256 : Nat) : Int)) ||| BitVec.ofInt 64 (un8 x)).toNat : Int) = _
  rw [show un8 x = ((x.toNat : Nat) : Int) from rfl, BitVec.ofInt_natCast, BitVec.ofInt_natCast, BitVec.toNat_or, BitVec.toNat_ofNat, BitVec.toNat_ofNat, Nat.mod_eq_of_lt (by omega), Nat.mod_eq_of_lt (by omega)]
  rw [show n * 256 ||| x.toNat = n * 256 + x.toNat by
    have := Nat.two_pow_add_eq_or_of_lt (i := 8) (b := x.toNat) (by omega) n
    rw [Nat.mul_comm n 256]
    exact this.symm]
  rw [IntKind.wrap_u64]
  omega

section
end

end Go.Proofs.Ytjakhemolecbnaa
end

/-
  The walks of sum.Crc and of the reference's Crc.
-/
section
set_option linter.unusedVariables false
set_option linter.unusedSimpArgs false
namespace Go.Proofs.Ytjakhemolecbnaa
open Go.RowKit

theorem shr1_int (c : UInt32) : un32 c / (2 : Int) = un32 (c >>> 1) := by unfold un32; rw [shr_one_nat]; omega
theorem and1 (c : UInt32) : bits .and .u32 (un32 c) 1 = un32 (c &&& 1) := and32 c 1
theorem xorPoly (c : UInt32) : bits .xor .u32 (un32 c) 3988292384 = un32 (c ^^^ 0xedb88320) := xor32 c 0xedb88320
theorem xorOnes (c : UInt32) : bits .xor .u32 (un32 c) 4294967295 = un32 (c ^^^ 0xffffffff) := xor32 c 0xffffffff
theorem notOnes (c : UInt32) : bits .xor .u32 IntKind.u32.max (un32 c) = un32 (c ^^^ 0xffffffff) := by
  rw [show IntKind.u32.max = un32 0xffffffff from by decide +kernel, xor32, UInt32.xor_comm]
section
attribute [local go_sem] un8_mod32 xor32 and1 xorPoly xorOnes notOnes shr1_int
end
end Go.Proofs.Ytjakhemolecbnaa
end

/-
  The walks of wal.Frame, wal.one and wal.Scan.
-/
section
set_option linter.unusedVariables false
set_option linter.unusedSimpArgs false
namespace Go.Proofs.Ytjakhemolecbnaa
open Go.RowKit

theorem info8i : ∃ i, Try.prog.info? 5 = some i ∧ i.zero = some (.int .u8 0) ∧ i.size = 1 ∧ i.bytes = 1 := by
  have h := info8
  cases hi : Try.prog.info? 5 with
  | none => rw [hi] at h; cases h
  | some i =>
    rw [hi] at h
    simp at h
    exact ⟨i, rfl, h⟩

/-- Strings of bytes as cells. -/
def sv (l : List (List UInt8)) : List Value := l.map fun x => .string ⟨x.toArray⟩
theorem sv_append (l m : List (List UInt8)) : sv (l ++ m) = sv l ++ sv m := by simp [sv]
theorem sv_length (l : List (List UInt8)) : (sv l).length = l.length := by simp [sv]
theorem infoS : (Try.prog.info? 9).map (fun i => (i.zero, i.size, i.bytes)) = some (some (.string ⟨#[]⟩), 1, 16) := by kernel_rfl

end Go.Proofs.Ytjakhemolecbnaa
end

/-
  A region that draws its order, proved by an outline: of each operation a property of its value and of the world (kept by every later step); each operation is walked once, in whatever world and order.
-/
section
set_option linter.unusedVariables false
set_option linter.unusedSimpArgs false
namespace Go.Proofs.Ytjakhemolecbnaa
open Go.RowKit

variable {P : Program} {ops : Array Oper} {Q : Exit → Act → World → Prop}

/-- The slot t is written by no operation but i and those that wait for i. -/
def quietB (ops : Array Oper) (i t : Nat) : Bool :=
  (List.range ops.size).all fun j => match ops[j]? with
    | some o => o.dst != some t || j == i || o.after.any fun e => Region.binds .any e && e.on == i
    | none => true
/-- No two operations write one slot. -/
def apartB (ops : Array Oper) (n : Nat) : Bool :=
  (List.range ops.size).all fun i => match ops[i]? with
    | some o => (match o.dst with | some t => decide (t < n) | none => true) && (List.range ops.size).all fun j => match ops[j]? with
        | some o' => i == j || o.dst == none || o.dst != o'.dst
        | none => true
    | none => true

/-- Operation i waits for j, which writes slot t. -/
def depB (ops : Array Oper) (i j t : Nat) : Bool :=
  match ops[i]?, ops[j]? with
  | some o, some o' => o'.dst == some t && o.after.any fun e => Region.binds .any e && e.on == j
  | _, _ => false

/-- Operation j waits for k. -/
def edgeB (ops : Array Oper) (j k : Nat) : Bool :=
  match ops[j]? with
  | some o => o.after.any fun e => Region.binds .any e && e.on == k
  | none => false

def OpOk (P : Program) (ops : Array Oper) (Q : Exit → Act → World → Prop) (a : Act) (I : Array Bool → World → Prop) (φ : Nat → Value → World → Prop) (i : Nat) (o : Oper) : Prop :=
  ∀ (l : Array Bool) (a' : Act) (w' : World) (K : Act → World → Prop), I l w' → (∀ j k, edgeB ops j k = true → l.getD k false = false → l.getD j false = false) → l.size = ops.size → l.getD i false = false →
    (∀ j t, depB ops i j t = true → φ j (a'.tmps.getD t undef) w') →
    (∀ t, quietB ops i t = true → a'.tmps.getD t undef = a.tmps.getD t undef) →
    (∀ v w'', I (l.setIfInBounds i true) w'' → (∀ j u, φ j u w' → φ j u w'') → φ i v w'' → K (a'.put o.dst v) w'') →
    if Region.wanted o (yielded ops a'.tmps) = true then o.wp P a' w' K Q else K (a'.put o.dst undef) w'

/-- The frame with all destinations filled. -/
def fillFrom (v : Nat → Value) : List Oper → Nat → Act → Act
  | [], _, a => a
  | o :: l, k, a => fillFrom v l (k + 1) (a.put o.dst (v k))

structure Mid (ops : Array Oper) (a : Act) (I : Array Bool → World → Prop) (φ : Nat → Value → World → Prop) (listed : Array Bool) (a' : Act) (w' : World) : Prop where
  inv : I listed w'
  size : a'.tmps.size = a.tmps.size
  defers : a'.defers = a.defers
  len : listed.size = ops.size
  closed : ∀ j o, ops[j]? = some o → listed.getD j false = true → ∀ e ∈ o.after.toList, Region.binds .any e = true → listed.getD e.on false = true
  has : ∀ j o t, ops[j]? = some o → listed.getD j false = true → o.dst = some t → φ j (a'.tmps.getD t undef) w'
  bare : ∀ j o, ops[j]? = some o → listed.getD j false = true → o.dst = none → ∃ u, φ j u w'
  old : ∀ t, (∀ j o, ops[j]? = some o → listed.getD j false = true → o.dst ≠ some t) → a'.tmps.getD t undef = a.tmps.getD t undef

theorem put_getD_same (a : Act) (t : Nat) (v : Value) (h : t < a.tmps.size) : (a.put (some t) v).tmps.getD t undef = v := by
  simp [Act.put, h]
theorem put_getD_other (a : Act) (t s : Nat) (v : Value) (h : s ≠ t) : (a.put (some t) v).tmps.getD s undef = a.tmps.getD s undef := by
  simp [Act.put, Array.getD_eq_getD_getElem?, Array.getElem?_setIfInBounds, Ne.symm h]
theorem put_size (a : Act) (d : Option Tmp) (v : Value) : (a.put d v).tmps.size = a.tmps.size := by
  cases d <;> simp [Act.put]
theorem put_defers (a : Act) (d : Option Tmp) (v : Value) : (a.put d v).defers = a.defers := by
  cases d <;> rfl

theorem apart_lt {n i : Nat} {o : Oper} {t : Nat} (h : apartB ops n = true) (ho : ops[i]? = some o) (hd : o.dst = some t) : t < n := by
  have hi : i < ops.size := (Array.getElem?_eq_some_iff.1 ho).1
  have := List.all_eq_true.1 h i (List.mem_range.2 hi)
  simp only [ho, hd, Bool.and_eq_true, decide_eq_true_eq] at this
  exact this.1
theorem apart_ne {n i j : Nat} {o o' : Oper} {t : Nat} (h : apartB ops n = true) (ho : ops[i]? = some o) (ho' : ops[j]? = some o') (hd : o.dst = some t) (hd' : o'.dst = some t) : i = j := by
  have hi : i < ops.size := (Array.getElem?_eq_some_iff.1 ho).1
  have hj : j < ops.size := (Array.getElem?_eq_some_iff.1 ho').1
  have := List.all_eq_true.1 h i (List.mem_range.2 hi)
  simp only [ho, hd, Bool.and_eq_true] at this
  have h2 := List.all_eq_true.1 this.2 j (List.mem_range.2 hj)
  simp only [ho', hd'] at h2
  simpa using h2

theorem getD_set (l : Array Bool) (i j : Nat) (hi : i < l.size) : (l.setIfInBounds i true).getD j false = if j = i then true else l.getD j false := by
  simp only [Array.getD_eq_getD_getElem?, Array.getElem?_setIfInBounds]
  by_cases h : i = j
  · subst h; simp [hi]
  · simp [h, Ne.symm h]

theorem Mid.step {a : Act} {I : Array Bool → World → Prop} {φ : Nat → Value → World → Prop} {listed : Array Bool} {a' : Act} {w' w'' : World} {i : Nat} {o : Oper} {v : Value}
    (hap : apartB ops a.tmps.size = true) (h : Mid ops a I φ listed a' w') (ho : ops[i]? = some o) (hn : listed.getD i true = false)
    (hb : ∀ e ∈ o.after.toList, Region.binds .any e = true → listed.getD e.on false = true)
    (hI : I (listed.setIfInBounds i true) w'') (hφ : ∀ j u, φ j u w' → φ j u w'') (hv : φ i v w'') : Mid ops a I φ (listed.setIfInBounds i true) (a'.put o.dst v) w'' := by
  have hi : i < ops.size := (Array.getElem?_eq_some_iff.1 ho).1
  have hil : i < listed.size := by rw [h.len]; exact hi
  refine ⟨hI, by rw [put_size, h.size], by rw [put_defers, h.defers], by simp [h.len], ?_, ?_, ?_, ?_⟩
  · intro j oj hj hl e he hbe
    rw [getD_set _ _ _ hil] at hl ⊢
    by_cases hji : j = i
    · subst hji
      rw [ho] at hj
      cases hj
      split
      · rfl
      · exact hb e he hbe
    · rw [if_neg hji] at hl
      split
      · rfl
      · exact h.closed j oj hj hl e he hbe
  · intro j oj t hj hl hd
    rw [getD_set _ _ _ hil] at hl
    by_cases hji : j = i
    · subst hji
      rw [ho] at hj
      cases hj
      rw [hd, put_getD_same _ _ _ (by rw [h.size]; exact apart_lt hap ho hd)]
      exact hv
    · rw [if_neg hji] at hl
      have h1 := hφ j _ (h.has j oj t hj hl hd)
      cases hdi : o.dst with
      | none => exact h1
      | some s =>
        have hst : t ≠ s := fun e => hji (by subst e; exact apart_ne hap hj ho hd hdi)
        rw [put_getD_other _ _ _ _ hst]
        exact h1
  · intro j oj hj hl hd
    rw [getD_set _ _ _ hil] at hl
    by_cases hji : j = i
    · subst hji
      exact ⟨v, hv⟩
    · rw [if_neg hji] at hl
      obtain ⟨u, hu⟩ := h.bare j oj hj hl hd
      exact ⟨u, hφ j u hu⟩
  · intro t ht
    have h1 : ∀ j oj, ops[j]? = some oj → listed.getD j false = true → oj.dst ≠ some t := by
      intro j oj hj hl
      refine ht j oj hj ?_
      rw [getD_set _ _ _ hil]
      split
      · rfl
      · exact hl
    have h2 : o.dst ≠ some t := ht i o ho (by rw [getD_set _ _ _ hil, if_pos rfl])
    rw [← h.old t h1]
    cases hdi : o.dst with
    | none => rfl
    | some s => exact put_getD_other _ _ _ _ (fun e => h2 (by rw [hdi, e]))

theorem outline_walk {a : Act} {I : Array Bool → World → Prop} {φ : Nat → Value → World → Prop} (hap : apartB ops a.tmps.size = true)
    (ok : ∀ i o, ops[i]? = some o → OpOk P ops Q a I φ i o)
    (fin : ∀ listed a' w', Mid ops a I φ listed a' w' → (∀ i, i < ops.size → listed.getD i false = true) → Q .normal a' w')
    (acyc : ∀ listed : Array Bool, listed.size = ops.size → Region.ready .any ops listed = [] → ∀ i, i < ops.size → listed.getD i false = true) :
    ∀ fuel listed a' w', Mid ops a I φ listed a' w' → (fuel + (listed.toList.filter id).length = ops.size) → wpAny P .any ops Q fuel listed a' w' := by
  intro fuel
  induction fuel with
  | zero =>
    intro listed a' w' h hf
    have hall : ∀ i, i < ops.size → listed.getD i false = true := by
      intro i hi
      have h1 : (listed.toList.filter id).length = listed.toList.length := by
        have := h.len
        have h3 : listed.toList.length = listed.size := Array.length_toList
        omega
      have h2 := List.length_filter_eq_length_iff.1 h1
      have hil : i < listed.size := by rw [h.len]; exact hi
      have := h2 listed[i] (by simp)
      simpa [Array.getD_eq_getD_getElem?, hil] using this
    refine ⟨?_, fin listed a' w' h hall⟩
    unfold Region.ready
    rw [List.filter_eq_nil_iff]
    intro i hi
    have h1 := hall i (List.mem_range.1 hi)
    have h2 : listed.getD i true = true := by
      have hil : i < listed.size := by rw [h.len]; exact List.mem_range.1 hi
      simpa [Array.getD_eq_getD_getElem?, hil] using h1
    simp [h2]
  | succ fuel ih =>
    intro listed a' w' h hf
    refine ⟨fun hr => fin listed a' w' h (acyc listed h.len hr), ?_⟩
    intro i hi
    unfold Region.ready at hi
    obtain ⟨hi1, hi2⟩ := List.mem_filter.1 hi
    have hi1 := List.mem_range.1 hi1
    have ho : ops[i]? = some ops[i] := Array.getElem?_eq_getElem hi1
    simp only [ho, Option.map_some, Option.getD_some, Bool.and_eq_true, Bool.not_eq_true'] at hi2
    obtain ⟨hn, hb⟩ := hi2
    have hil : i < listed.size := by rw [h.len]; exact hi1
    have hnf : listed.getD i false = false := by
      simpa [Array.getD_eq_getD_getElem?, hil] using hn
    have hb' : ∀ e ∈ ops[i].after.toList, Region.binds .any e = true → listed.getD e.on false = true := by
      intro e he hbe
      have h1 := Array.all_eq_true_iff_forall_mem.1 hb e (by simpa using he)
      simpa [hbe] using h1
    refine wpOp_step ho (fun K' hK => ?_)
    have hcl : ∀ j k, edgeB ops j k = true → listed.getD k false = false → listed.getD j false = false := by
      intro j k hjk hk
      unfold edgeB at hjk
      cases hoj : ops[j]? with
      | none => rw [hoj] at hjk; cases hjk
      | some oj =>
        rw [hoj] at hjk
        obtain ⟨e, he, h2⟩ := Array.any_eq_true'.1 hjk
        simp only [Bool.and_eq_true, beq_iff_eq] at h2
        cases hx : listed.getD j false with
        | false => rfl
        | true =>
          have h3 := h.closed j oj hoj hx e (by simpa using he) h2.1
          rw [h2.2, hk] at h3
          cases h3
    refine ok i ops[i] ho listed a' w' K' h.inv hcl h.len hnf ?_ ?_ ?_
    · intro j t hdep
      unfold depB at hdep
      rw [ho] at hdep
      cases hoj : ops[j]? with
      | none => rw [hoj] at hdep; cases hdep
      | some oj =>
        rw [hoj] at hdep
        simp only [Bool.and_eq_true, beq_iff_eq] at hdep
        obtain ⟨e, he, h2⟩ := Array.any_eq_true'.1 hdep.2
        simp only [Bool.and_eq_true, beq_iff_eq] at h2
        have h3 := hb' e (by simpa using he) h2.1
        rw [h2.2] at h3
        exact h.has j oj t hoj h3 hdep.1
    · intro t ht
      refine h.old t ?_
      intro j oj hj hl hd
      have hj1 : j < ops.size := (Array.getElem?_eq_some_iff.1 hj).1
      have h1 := List.all_eq_true.1 ht j (List.mem_range.2 hj1)
      simp only [hj, hd] at h1
      simp only [bne_self_eq_false, Bool.false_or, Bool.or_eq_true, beq_iff_eq] at h1
      rcases h1 with h1 | h1
      · subst h1
        rw [hnf] at hl
        cases hl
      · obtain ⟨e, he, h2⟩ := Array.any_eq_true'.1 h1
        simp only [Bool.and_eq_true, beq_iff_eq] at h2
        have h3 := h.closed j oj hj hl e (by simpa using he) h2.1
        rw [h2.2, hnf] at h3
        cases h3
    · intro v w'' hI hφ hv
      refine hK _ _ (ih _ _ _ (h.step hap ho hn hb' hI hφ hv) ?_)
      have hset : ((listed.setIfInBounds i true).toList.filter id).length = (listed.toList.filter id).length + 1 := by
        have hg : listed.toList[i]'(by simpa using hil) = false := by
          simpa [Array.getD_eq_getD_getElem?, hil] using hnf
        rw [Array.toList_setIfInBounds]
        have key : ∀ (l : List Bool) (i : Nat) (h : i < l.length), l[i] = false → ((l.set i true).filter id).length = (l.filter id).length + 1 := by
          intro l
          induction l with
          | nil => intro i h; simp at h
          | cons x l ihl =>
            intro i h hx
            cases i with
            | zero => simp only [List.getElem_cons_zero] at hx; subst hx; simp
            | succ i =>
              simp only [List.getElem_cons_succ] at hx
              have := ihl i (by simpa using h) hx
              cases x <;> simp [this]
        exact key _ _ _ hg
      omega

theorem fill_other (v : Nat → Value) (t : Nat) : ∀ (l : List Oper) (k : Nat) (a : Act), (∀ o ∈ l, o.dst ≠ some t) → (fillFrom v l k a).tmps.getD t undef = a.tmps.getD t undef
  | [], _, _, _ => rfl
  | o :: l, k, a, h => by
    rw [fillFrom, fill_other v t l (k + 1) _ (fun o' ho' => h o' (List.mem_cons_of_mem _ ho'))]
    cases hd : o.dst with
    | none => rfl
    | some s => exact put_getD_other _ _ _ _ (fun e => h o (List.mem_cons_self) (by rw [hd, e]))
theorem fill_size (v : Nat → Value) : ∀ (l : List Oper) (k : Nat) (a : Act), (fillFrom v l k a).tmps.size = a.tmps.size
  | [], _, _ => rfl
  | o :: l, k, a => by rw [fillFrom, fill_size v l, put_size]
theorem fill_defers (v : Nat → Value) : ∀ (l : List Oper) (k : Nat) (a : Act), (fillFrom v l k a).defers = a.defers
  | [], _, _ => rfl
  | o :: l, k, a => by rw [fillFrom, fill_defers v l, put_defers]
theorem fill_at (v : Nat → Value) (t : Nat) : ∀ (l : List Oper) (k : Nat) (a : Act) (j : Nat) (o : Oper), l[j]? = some o → o.dst = some t → t < a.tmps.size →
    (∀ i o', l[i]? = some o' → o'.dst = some t → i = j) → (fillFrom v l k a).tmps.getD t undef = v (k + j)
  | [], _, _, _, _, h, _, _, _ => by simp at h
  | o :: l, k, a, 0, o1, h, hd, hs, hu => by
    simp only [List.getElem?_cons_zero, Option.some.injEq] at h
    subst h
    rw [fillFrom, fill_other v t l (k + 1), hd, put_getD_same _ _ _ hs]
    · rfl
    · intro o' ho' hd'
      obtain ⟨i, hi⟩ := List.getElem?_of_mem ho'
      have := hu (i + 1) o' (by simpa using hi) hd'
      omega
  | o :: l, k, a, j + 1, o1, h, hd, hs, hu => by
    simp only [List.getElem?_cons_succ] at h
    rw [fillFrom, fill_at v t l (k + 1) _ j o1 h hd (by rw [put_size]; exact hs) (fun i o' hi hd' => by
      have := hu (i + 1) o' (by simpa using hi) hd'
      omega)]
    congr 1
    omega

/-- Every operation waits for earlier ones alone. -/
def backB (ops : Array Oper) : Bool :=
  (List.range ops.size).all fun i => match ops[i]? with
    | some o => o.after.all fun e => decide (e.on < i)
    | none => true

theorem acyc_of_back (h : backB ops = true) : ∀ listed : Array Bool, listed.size = ops.size → Region.ready .any ops listed = [] → ∀ i, i < ops.size → listed.getD i false = true := by
  intro listed hl hr i
  induction i using Nat.strongRecOn with
  | _ i ih =>
    intro hi
    cases hx : listed.getD i false with
    | true => rfl
    | false =>
      exfalso
      have hil : i < listed.size := by rw [hl]; exact hi
      have hm : i ∈ Region.ready .any ops listed := by
        unfold Region.ready
        refine List.mem_filter.2 ⟨List.mem_range.2 hi, ?_⟩
        have ho : ops[i]? = some ops[i] := Array.getElem?_eq_getElem hi
        simp only [ho, Option.map_some, Option.getD_some, Bool.and_eq_true, Bool.not_eq_true']
        refine ⟨by simpa [Array.getD_eq_getD_getElem?, hil] using hx, ?_⟩
        rw [Array.all_eq_true_iff_forall_mem]
        intro e he
        have h1 := List.all_eq_true.1 h i (List.mem_range.2 hi)
        simp only [ho] at h1
        have h2 := Array.all_eq_true_iff_forall_mem.1 h1 e he
        have h3 : e.on < i := by simpa using h2
        rw [ih e.on h3 (by omega)]
        simp
      rw [hr] at hm
      cases hm

/-- THE RULE. -/
theorem region_outline {id : Nat} {a : Act} {w : World} (I : Array Bool → World → Prop) (φ : Nat → Value → World → Prop) (hm : P.follows .mixedOrders = true)
    (hap : apartB ops a.tmps.size = true) (hback : backB ops = true) (hI : I (Array.replicate ops.size false) w.drew)
    (ok : ∀ i o, ops[i]? = some o → OpOk P ops Q a I φ i o)
    (fin : ∀ (l : Array Bool) (v : Nat → Value) (w' : World), l.size = ops.size → (∀ i, i < ops.size → l.getD i false = true) → I l w' → (∀ j, j < ops.size → φ j (v j) w') → Q .normal (fillFrom v ops.toList 0 a) w') : (Code.region id ops true).wp P Q a w := by
  refine wp_region_any hm ?_
  refine outline_walk (I := I) (φ := φ) hap ok ?_ (acyc_of_back hback) ops.size _ _ _ ?_ ?_
  · intro listed a' w' h hall
    have hex : ∀ j, ∃ u, j < ops.size → φ j u w' ∧ ∀ o t, ops[j]? = some o → o.dst = some t → a'.tmps.getD t undef = u := by
      intro j
      by_cases hj : j < ops.size
      · have ho : ops[j]? = some ops[j] := Array.getElem?_eq_getElem hj
        cases hd : ops[j].dst with
        | none =>
          obtain ⟨u, hu⟩ := h.bare j _ ho (hall j hj) hd
          exact ⟨u, fun _ => ⟨hu, fun o t h1 h2 => by rw [ho] at h1; cases h1; rw [hd] at h2; cases h2⟩⟩
        | some t =>
          exact ⟨_, fun _ => ⟨h.has j _ t ho (hall j hj) hd, fun o t' h1 h2 => by rw [ho] at h1; cases h1; rw [hd] at h2; cases h2; rfl⟩⟩
      · exact ⟨undef, fun h => absurd h hj⟩
    have hv := fun j => Classical.choose_spec (hex j)
    have e : a' = fillFrom (fun j => Classical.choose (hex j)) ops.toList 0 a := by
      have hsz : a'.tmps = (fillFrom (fun j => Classical.choose (hex j)) ops.toList 0 a).tmps := by
        apply Array.ext
        · rw [fill_size, h.size]
        · intro t h1 h2
          have key : a'.tmps.getD t undef = (fillFrom (fun j => Classical.choose (hex j)) ops.toList 0 a).tmps.getD t undef := by
            by_cases hc : ∃ (j : Nat) (o : Oper), ops[j]? = some o ∧ o.dst = some t
            · obtain ⟨j, o, ho, hd⟩ := hc
              have hj : j < ops.size := (Array.getElem?_eq_some_iff.1 ho).1
              rw [fill_at _ t ops.toList 0 a j o (by simpa using ho) hd (apart_lt hap ho hd) (fun i o' hi hd' => apart_ne hap (by simpa using hi) ho hd' hd)]
              rw [Nat.zero_add]
              exact (hv j hj).2 o t ho hd
            · have hc' : ∀ (j : Nat) (o : Oper), ops[j]? = some o → o.dst ≠ some t := fun j o ho hd => hc ⟨j, o, ho, hd⟩
              rw [h.old t (fun j o ho _ => hc' j o ho), fill_other _ t ops.toList 0 a (fun o ho hd => by
                obtain ⟨i, hi⟩ := List.getElem?_of_mem ho
                exact hc' i o (by simpa using hi) hd)]
          rw [Array.getD_eq_getD_getElem?, Array.getD_eq_getD_getElem?, Array.getElem?_eq_getElem h1, Array.getElem?_eq_getElem h2] at key
          exact key
      have hdf : a'.defers = (fillFrom (fun j => Classical.choose (hex j)) ops.toList 0 a).defers := by rw [fill_defers, h.defers]
      cases a'
      cases hf : fillFrom (fun j => Classical.choose (hex j)) ops.toList 0 a
      rw [hf] at hsz hdf
      cases hsz
      cases hdf
      rfl
    rw [e]
    exact fin _ _ w' h.len hall h.inv (fun j hj => (hv j hj).1)
  · refine ⟨hI, rfl, rfl, by simp, ?_, ?_, ?_, ?_⟩
    · intro j o hj hl
      simp [Array.getD_eq_getD_getElem?, Array.getElem?_replicate] at hl
      split at hl <;> simp at hl
    · intro j o t hj hl
      simp [Array.getD_eq_getD_getElem?, Array.getElem?_replicate] at hl
      split at hl <;> simp at hl
    · intro j o hj hl
      simp [Array.getD_eq_getD_getElem?, Array.getElem?_replicate] at hl
      split at hl <;> simp at hl
    · intro t _
      rfl
  · simp

/-! The rule over a list of properties. -/
def nth (L : List (Value → World → Prop)) (j : Nat) : Value → World → Prop := L.getD j (fun _ _ => True)
def OkAll (P : Program) (ops : Array Oper) (Q : Exit → Act → World → Prop) (a : Act) (I : Array Bool → World → Prop) (L : List (Value → World → Prop)) : List Oper → Nat → Prop
  | [], _ => True
  | o :: l, k => OpOk P ops Q a I (nth L) k o ∧ OkAll P ops Q a I L l (k + 1)
theorem ok_all {a : Act} {I : Array Bool → World → Prop} {L : List (Value → World → Prop)} : ∀ (l : List Oper) (k : Nat), OkAll P ops Q a I L l k → ∀ i o, l[i]? = some o → OpOk P ops Q a I (nth L) (k + i) o
  | [], _, _, i, o, h => by simp at h
  | o :: l, k, h, 0, o', h' => by
    simp only [List.getElem?_cons_zero, Option.some.injEq] at h'
    subst h'
    exact h.1
  | o :: l, k, h, i + 1, o', h' => by
    have := ok_all l (k + 1) h.2 i o' (by simpa using h')
    rwa [show k + 1 + i = k + (i + 1) by omega] at this
def FinGoal (Q : Exit → Act → World → Prop) (w' : World) : List (Value → World → Prop) → List Oper → Act → Prop
  | p :: L, o :: l, a => ∀ v, p v w' → FinGoal Q w' L l (a.put o.dst v)
  | _, _, a => Q .normal a w'
theorem fin_goal {w' : World} (v : Nat → Value) : ∀ (L : List (Value → World → Prop)) (l : List Oper) (k : Nat) (a : Act), L.length = l.length → FinGoal Q w' L l a →
    (∀ j, j < l.length → nth L j (v (k + j)) w') → Q .normal (fillFrom v l k a) w'
  | [], [], _, _, _, h, _ => h
  | p :: L, o :: l, k, a, hl, h, hv => by
    refine fin_goal v L l (k + 1) _ (by simpa using hl) (h (v k) (hv 0 (by simp))) (fun j hj => ?_)
    have := hv (j + 1) (by simpa using hj)
    rw [show k + 1 + j = k + (j + 1) by omega]
    exact this
  | [], _ :: _, _, _, hl, _, _ => by simp at hl
  | _ :: _, [], _, _, hl, _, _ => by simp at hl

theorem region_byL {id : Nat} {a : Act} {w : World} (I : Array Bool → World → Prop) (L : List (Value → World → Prop)) (hm : P.follows .mixedOrders = true)
    (hap : apartB ops a.tmps.size = true) (hback : backB ops = true) (hlen : L.length = ops.toList.length) (hI : I (Array.replicate ops.size false) w.drew)
    (ok : OkAll P ops Q a I L ops.toList 0) (fin : ∀ l w', l.size = ops.size → (∀ i, i < ops.size → l.getD i false = true) → I l w' → FinGoal Q w' L ops.toList a) : (Code.region id ops true).wp P Q a w := by
  refine region_outline I (nth L) hm hap hback hI (fun i o h => ?_) (fun l v w' hl1 hl2 hI' hv => ?_)
  · have := ok_all ops.toList 0 ok i o (by simpa using h)
    rwa [Nat.zero_add] at this
  · exact fin_goal v L ops.toList 0 a hlen (fin l w' hl1 hl2 hI') (fun j hj => by rw [Nat.zero_add]; exact hv j (by simpa using hj))

/-- The rule where the invariant is of the world alone. -/
def OpOk1 (P : Program) (ops : Array Oper) (Q : Exit → Act → World → Prop) (a : Act) (I : World → Prop) (φ : Nat → Value → World → Prop) (i : Nat) (o : Oper) : Prop :=
  ∀ (a' : Act) (w' : World) (K : Act → World → Prop), I w' →
    (∀ j t, depB ops i j t = true → φ j (a'.tmps.getD t undef) w') →
    (∀ t, quietB ops i t = true → a'.tmps.getD t undef = a.tmps.getD t undef) →
    (∀ v w'', I w'' → (∀ j u, φ j u w' → φ j u w'') → φ i v w'' → K (a'.put o.dst v) w'') →
    if Region.wanted o (yielded ops a'.tmps) = true then o.wp P a' w' K Q else K (a'.put o.dst undef) w'
def OkAll1 (P : Program) (ops : Array Oper) (Q : Exit → Act → World → Prop) (a : Act) (I : World → Prop) (L : List (Value → World → Prop)) : List Oper → Nat → Prop
  | [], _ => True
  | o :: l, k => OpOk1 P ops Q a I (nth L) k o ∧ OkAll1 P ops Q a I L l (k + 1)
theorem ok_of_1 {a : Act} {I : World → Prop} {L : List (Value → World → Prop)} : ∀ (l : List Oper) (k : Nat), OkAll1 P ops Q a I L l k → OkAll P ops Q a (fun _ w' => I w') L l k
  | [], _, _ => trivial
  | _ :: l, k, h => ⟨fun _ a' w' K hI _ _ _ hd hq hK => h.1 a' w' K hI hd hq hK, ok_of_1 l (k + 1) h.2⟩
theorem region_by {id : Nat} {a : Act} {w : World} (I : World → Prop) (L : List (Value → World → Prop)) (hm : P.follows .mixedOrders = true)
    (hap : apartB ops a.tmps.size = true) (hback : backB ops = true) (hlen : L.length = ops.toList.length) (hI : I w.drew)
    (ok : OkAll1 P ops Q a I L ops.toList 0) (fin : ∀ w', I w' → FinGoal Q w' L ops.toList a) : (Code.region id ops true).wp P Q a w :=
  region_byL (fun _ w' => I w') L hm hap hback hlen hI (ok_of_1 ops.toList 0 ok) (fun _ w' _ _ hI' => fin w' hI')

/-- An operation that gives a value and leaves the world. -/
theorem op_value {a' : Act} {w' w'' : World} {K : Act → World → Prop} {o : Oper} {v : Value} (hw : Region.wanted o (yielded ops a'.tmps) = true) (hrun : (execOp a'.eval o).run P w' = .ok (.value v) w'') (hK : K (a'.put o.dst v) w'') :
    if Region.wanted o (yielded ops a'.tmps) = true then o.wp P a' w' K Q else K (a'.put o.dst undef) w' := by
  rw [if_pos hw]
  unfold Oper.wp
  rw [hrun]
  exact hK
/-- A call of a Go function, by its contract. -/
theorem op_call {a' : Act} {w' : World} {K : Act → World → Prop} {o : Oper} {f : FuncId} {fn : Func} {xs : Array Operand} {ts : Array TypeId} (args : Array Value) (hw : Region.wanted o (yielded ops a'.tmps) = true)
    (hop : o.op = .call { callee := .value (.func f), args := xs, argTypes := ts }) (hf : P.funcs[f]? = some fn) (hname : (fn.name == "runtime.NumGoroutine") = false) (hb : fn.body.isSome = true)
    (hargs : xs.map a'.eval = args) (h : Calls P f args w' fun e w'' => ∃ v, e = .returned v ∧ K (a'.put o.dst v) w'') :
    if Region.wanted o (yielded ops a'.tmps) = true then o.wp P a' w' K Q else K (a'.put o.dst undef) w' := by
  rw [if_pos hw]
  have h1 : fn.name ≠ "runtime.NumGoroutine" := by simpa using hname
  obtain ⟨c, hc⟩ := Option.isSome_iff_exists.1 hb
  have he : (callFunc f args).run P w' = .ok (.enter f args) w' := by simp [callFunc, hf, h1, hc]
  have hrun : (execOp a'.eval o).run P w' = .ok (.enter f args) w' := by
    unfold execOp
    simp [hop, resolve, Deferred.ofValue, invoke, Act.eval, hargs, he]
  unfold Oper.wp
  rw [hrun, Oper.upon_enter]
  refine h.mono fun e w'' hh => ?_
  obtain ⟨v, rfl, hk⟩ := hh
  exact hk
theorem wanted_free (o : Oper) (y : Nat → Option Bool) (h : o.guard = none) : Region.wanted o y = true := by simp [Region.wanted, h]
theorem wanted_on (o : Oper) (a' : Act) (j t : Nat) (b : Bool) (h : o.guard = some (j, b)) (ht : (ops[j]?).bind (·.dst) = some t) (hv : a'.tmps.getD t undef = .bool b) : Region.wanted o (yielded ops a'.tmps) = true := by
  cases ho : ops[j]? with
  | none => rw [ho] at ht; cases ht
  | some oj =>
    rw [ho] at ht
    have ht' : oj.dst = some t := ht
    rw [Array.getD_eq_getD_getElem?] at hv
    cases hx : a'.tmps[t]? with
    | none => rw [hx] at hv; simp [undef] at hv
    | some u =>
      rw [hx] at hv
      have hv' : u = .bool b := hv
      simp [Region.wanted, h, yielded, ho, ht', hx, hv']

end Go.Proofs.Ytjakhemolecbnaa
end

/-
  The walks of wal's Log, of few, Texts and slices.Clone of strings.
-/
section
set_option linter.unusedVariables false
set_option linter.unusedSimpArgs false
namespace Go.Proofs.Ytjakhemolecbnaa
open Go.RowKit

/-- A slice of strings that reads as L. -/
abbrev RS (w : World) (A : Option Addr) (L : List (List UInt8)) : Prop := RC w A (sv L)
theorem RC.parts {w : World} {A : Option Addr} {l : List Value} (h : RC w A l) (h0 : 0 < l.length) :
    ∃ b o, A = some ⟨b, o, none⟩ ∧ ∀ j u, l[j]? = some u → w.cell? ⟨b, o + j, none⟩ = some u := by
  obtain ⟨⟨b, o, sp⟩, e, hc⟩ := h h0
  have hsp : sp = none := by
    have := hc 0 _ (List.getElem?_eq_getElem h0)
    simp only [Addr.add, if_true] at this
    unfold World.cell? at this
    cases sp with
    | none => rfl
    | some s => simp at this; split at this <;> simp at this
  subst hsp
  refine ⟨b, o, e, fun j u hj => ?_⟩
  have := hc j u hj
  rwa [add_off] at this
theorem sv_get (L : List (List UInt8)) (i : Nat) (h : i < L.length) : (sv L)[i]? = some (.string ⟨L[i].toArray⟩) := by simp [sv, List.getElem?_eq_getElem h]

/-- The string of bytes: unlike bytes, unlike strings. -/
def strB (l : List UInt8) : ByteArray := ⟨l.toArray⟩
theorem strB_size (l : List UInt8) : (strB l).size = l.length := by show l.toArray.size = _; simp
theorem sv_get' (L : List (List UInt8)) (i : Nat) (h : i < L.length) : (sv L)[i]? = some (.string (strB L[i])) := sv_get L i h

namespace LogAt
variable {w w' : World} {B pl pd : Nat} {va vd : Value} {recs : List (List UInt8)} {b : List UInt8} {safe : Nat}
end LogAt

theorem strB_toList (l : List UInt8) : (strB l).data.toList = l := by simp [strB]

end Go.Proofs.Ytjakhemolecbnaa
end

/-
  Records, the tests that are made of them, and whether a row of records holds one that passes.
-/
section
set_option linter.unusedVariables false
set_option linter.unusedSimpArgs false
namespace Go.Proofs.Ytjakhemolecbnaa
open Go.RowKit

/-- A record as it lies in memory: its kind, its transaction, its groups' slice, its body. -/
structure Rm where
  kind : Int
  tx : List UInt8
  A : Option Addr
  c : Nat
  groups : List Int
  body : List UInt8
def Rm.cells (m : Rm) : List Value := [.int .i64 m.kind, .string (strB m.tx), .slice m.A m.groups.length m.c, .string (strB m.body)]
def rmc (l : List Rm) : List Value := l.flatMap Rm.cells
theorem rmc_length (l : List Rm) : (rmc l).length = l.length * 4 := by
  induction l with
  | nil => rfl
  | cons m l ih =>
    have e : rmc (m :: l) = m.cells ++ rmc l := rfl
    rw [e, List.length_append, ih, List.length_cons]
    show 4 + l.length * 4 = _
    omega
theorem rmc_append (l m : List Rm) : rmc (l ++ m) = rmc l ++ rmc m := by simp [rmc]
theorem rmc_take (l : List Rm) (i : Nat) (h : i ≤ l.length) : (rmc l).take (i * 4) = rmc (l.take i) := by
  conv => lhs; rw [← List.take_append_drop i l, rmc_append]
  have e : i * 4 = (rmc (l.take i)).length := by rw [rmc_length, List.length_take]; omega
  rw [e]
  exact List.take_left
theorem rmc_get (l : List Rm) (i : Nat) (h : i < l.length) : (rmc l)[i * 4]? = some (.int .i64 l[i].kind) ∧ (rmc l)[i * 4 + 1]? = some (.string (strB l[i].tx)) ∧ (rmc l)[i * 4 + 2]? = some (.slice l[i].A l[i].groups.length l[i].c) ∧ (rmc l)[i * 4 + 3]? = some (.string (strB l[i].body)) := by
  have e : (rmc l).drop (i * 4) = l[i].cells ++ rmc (l.drop (i + 1)) := by
    have h1 : l = l.take i ++ l[i] :: l.drop (i + 1) := by
      conv => lhs; rw [← List.take_append_drop i l, List.drop_eq_getElem_cons h]
    have h2 : rmc l = rmc (l.take i) ++ (l[i].cells ++ rmc (l.drop (i + 1))) := by
      refine (congrArg rmc h1).trans ?_
      rw [rmc_append]
      rfl
    have h3 : i * 4 = (rmc (l.take i)).length := by rw [rmc_length, List.length_take]; omega
    rw [h2, h3]
    exact List.drop_left
  have key : ∀ j, (rmc l)[i * 4 + j]? = (l[i].cells ++ rmc (l.drop (i + 1)))[j]? := fun j => by rw [← e, List.getElem?_drop]
  exact ⟨by have := key 0; rw [Nat.add_zero] at this; rw [this]; rfl, by rw [key 1]; rfl, by rw [key 2]; rfl, by rw [key 3]; rfl⟩
def ofP (k : Int) (s : List UInt8) (m : Rm) : Bool := decide (m.kind = k ∧ m.tx = s)
def strP (s : List UInt8) (zs : List Int) (m : Rm) : Bool := decide (m.kind = 3 ∧ m.tx = s ∧ m.groups ≠ zs)

set_option maxHeartbeats 1000000 in
theorem of_any (k : Int) (s : ByteArray) (w : World) : Calls Try.prog 53 #[.int .i64 k, .string s] w fun e w' => ∃ g, e = .returned (.func (.func 77) #[] #[.pointer (some ⟨g, 0, none⟩), .pointer (some ⟨g + 1, 0, none⟩)]) ∧ w'.cell? ⟨g, 0, none⟩ = some (.int .i64 k) ∧ w'.cell? ⟨g + 1, 0, none⟩ = some (.string s) ∧ Below w.heap.size w w' := by
  have hmf : ∀ (fn : Fn) (first cap : Array Value) (w : World), (Instr.makeFunc fn first cap).run Try.prog w = .ok (.func fn first cap) w := fun _ _ _ _ => rfl
  go_enter Try.func53, Try.ntmps53
  go_wp2_with fail
  go_ret
  refine ⟨w.heap.size, rfl, ?_, ?_, ((Below.refl _ _).alloc (Nat.le_refl _) _).alloc (by simp) _⟩
  · have h := heap_alloc_new w (.cells #[.int .i64 k] 3)
    have h2 := (Below.heap_alloc (w.alloc (.cells #[.int .i64 k] 3)) (.cells #[.string s] 9) w.heap.size (by simp)).trans h
    exact (cell_of_row _ _ 0 _ _ _ h2).trans rfl
  · have h := heap_alloc_new (w.alloc (.cells #[.int .i64 k] 3)) (.cells #[.string s] 9)
    have e : (w.alloc (.cells #[.int .i64 k] 3)).heap.size = w.heap.size + 1 := by simp
    rw [e] at h
    exact (cell_of_row _ _ 0 _ _ _ h).trans rfl

set_option maxHeartbeats 2000000 in
/-- The test that of makes. -/
theorem of1_any (g1 g2 : Nat) (k : Int) (s : List UInt8) (m : Rm) (w : World) (h1 : w.cell? ⟨g1, 0, none⟩ = some (.int .i64 k)) (h2 : w.cell? ⟨g2, 0, none⟩ = some (.string (strB s))) :
    Calls Try.prog 77 #[.agg m.cells.toArray, .pointer (some ⟨g1, 0, none⟩), .pointer (some ⟨g2, 0, none⟩)] w fun e w' => e = .returned (.bool (ofP k s m)) ∧ Below w.heap.size w w' := by
  obtain ⟨mk, mt, mA, mc, mg, mb⟩ := m
  unfold ofP Rm.cells
  dsimp only
  have h1a : ∀ ob, (w.alloc ob).cell? ⟨g1, 0, none⟩ = some (.int .i64 k) := fun ob => Lib.cell?_alloc_some ob h1
  have h2a : ∀ ob, (w.alloc ob).cell? ⟨g2, 0, none⟩ = some (.string (strB s)) := fun ob => Lib.cell?_alloc_some ob h2
  by_cases hk : mk = k
  · subst hk
    by_cases hs : mt = s
    · subst hs
      generalize strB mt = z at *
      generalize strB mb = y
      have hd : decide (mk = mk ∧ mt = mt) = true := by simp
      rw [hd]
      clear hd
      go_enter Try.func77, Try.ntmps77
      go_wp2_with fail
      go_ret
      exact ⟨rfl, (Below.refl _ _).alloc (Nat.le_refl _) _⟩
    · have hd : decide (mk = mk ∧ mt = s) = false := by simp [hs]
      rw [hd]
      have HZF := Lib.hid (show ((strB mt).toList == (strB s).toList) = false by rw [ByteArray.toList_eq, ByteArray.toList_eq, strB_toList, strB_toList]; simpa using hs)
      generalize strB mt = z1 at *
      generalize strB s = z2 at *
      generalize strB mb = y
      clear hd hs
      go_enter Try.func77, Try.ntmps77
      go_wp2_with fail
      go_ret
      exact ⟨ret_bool HZF.out, (Below.refl _ _).alloc (Nat.le_refl _) _⟩
  · have hd : decide (mk = k ∧ mt = s) = false := by simp [hk]
    rw [hd]
    have hk1 : (mk == k) = false := by simpa using hk
    generalize strB mt = z1 at *
    generalize strB s = z2 at *
    generalize strB mb = y
    clear hd hk
    go_enter Try.func77, Try.ntmps77
    go_wp2_with fail
    go_ret
    exact ⟨rfl, (Below.refl _ _).alloc (Nat.le_refl _) _⟩

set_option maxHeartbeats 4000000 in
/-- Whether a row of records holds one that passes the test that of makes. -/
theorem indexOf_any (A : Option Addr) (n c : Nat) (l : List Rm) (g : Nat) (k : Int) (s : List UInt8) (w : World) (hl : l.length = n) (hn : n ≤ 100000000) (hr : RC w A (rmc l)) (h1 : w.cell? ⟨g, 0, none⟩ = some (.int .i64 k)) (h2 : w.cell? ⟨g + 1, 0, none⟩ = some (.string (strB s))) :
    Calls Try.prog 88 #[.slice A n c, .func (.func 77) #[] #[.pointer (some ⟨g, 0, none⟩), .pointer (some ⟨g + 1, 0, none⟩)]] w fun e w' => (∃ r : Int, e = .returned (.int .i64 r) ∧ (0 ≤ r ↔ l.any (ofP k s) = true)) ∧ Below w.heap.size w w' := by
  subst hl
  have HR := Lib.hid hr
  have H1 := Lib.hid h1
  have H2 := Lib.hid h2
  clear hr h1 h2
  go_enter Try.func88, Try.ntmps88
  go_wp2_with fail
  go_loopg [8] l.length (fun gk s8 wr => ∃ i : Nat, i ≤ l.length ∧ gk = l.length - i ∧ s8 = .int .i64 (i : Int) ∧ (∀ j (h : j < l.length), j < i → ofP k s l[j] = false) ∧ Below w.heap.size w wr)
  case atStart => exact ⟨0, Nat.zero_le _, by omega, rfl, fun j _ hj => absurd hj (Nat.not_lt_zero _), Below.refl _ _⟩
  case round =>
    obtain ⟨i, hi, hk, rfl, hz, hb⟩ := hrel
    have HK := Lib.hid hk
    have HZ := Lib.hid hz
    have HB := Lib.hid hb
    clear hk hz hb
    by_cases hlt : i < l.length
    · obtain ⟨b, o, rfl, hc⟩ := RC.part HR.out (by rw [rmc_length]; omega)
      have hg := rmc_get l i hlt
      have q0 := cell_below HB.out (hc _ _ hg.1)
      have q1 := cell_below HB.out (hc _ _ hg.2.1)
      have q2 := cell_below HB.out (hc _ _ hg.2.2.1)
      have q3 := cell_below HB.out (hc _ _ hg.2.2.2)
      rw [← Nat.add_assoc] at q1 q2 q3
      obtain ⟨m, em⟩ : ∃ m, m = l[i] := ⟨_, rfl⟩
      rw [← em] at q0 q1 q2 q3
      have EM := Lib.hid em
      have HLT := Lib.hid hlt
      have i0 : (0 : Int) ≤ (i : Int) := by omega
      have i1 : (i : Int) < (l.length : Int) := by omega
      obtain ⟨mk, mt, mA, mc, mg, mb⟩ := m
      dsimp only at q0 q1 q2 q3
      obtain ⟨z1, hz1⟩ : ∃ z1, z1 = strB mt := ⟨_, rfl⟩
      obtain ⟨z2, hz2⟩ : ∃ z2, z2 = strB mb := ⟨_, rfl⟩
      rw [← hz1] at q1
      rw [← hz2] at q3
      have HQ := Lib.hid (show (⟨mk, mt, mA, mc, mg, mb⟩ : Rm).cells.toArray = #[.int .i64 mk, .string z1, .slice mA mg.length mc, .string z2] by rw [hz1, hz2]; rfl)
      clear hc hg em hi hz1 hz2
      go_wp2_with fail
      rw [← HQ.out]
      refine (of1_any g (g + 1) k s ⟨mk, mt, mA, mc, mg, mb⟩ wr (cell_below HB.out H1.out) (cell_below HB.out H2.out)).mono ?_
      obtain ⟨q, hq⟩ : ∃ q, ofP k s ⟨mk, mt, mA, mc, mg, mb⟩ = q := ⟨_, rfl⟩
      rw [hq]
      rintro e w1 ⟨rfl, hb1⟩
      have HB1 := Lib.hid (below_below HB.out HB.out.size hb1)
      have HQ2 := Lib.hid (show ofP k s (l[i]'HLT.out) = q by rw [← EM.out]; exact hq)
      rw [HQ.out]
      clear hb1 hq q0 q1 q2 q3
      cases q with
      | true =>
        go_wp2_with fail
        go_ret
        exact ⟨⟨_, rfl, fun _ => List.any_eq_true.2 ⟨_, List.getElem_mem HLT.out, HQ2.out⟩, fun _ => by omega⟩, HB1.out⟩
      | false =>
        go_wp2_with fail
        go_roundg (l.length - (i + 1))
        case measure => have := HK.out; have := HLT.out; omega
        case rel =>
          refine ⟨i + 1, HLT.out, rfl, by go_num, fun j hj hji => ?_, HB1.out⟩
          by_cases h : j = i
          · subst h
            exact HQ2.out
          · exact HZ.out j hj (by omega)
    · obtain rfl : i = l.length := by omega
      go_wp2_with fail
      go_ret
      refine ⟨⟨_, rfl, fun h => absurd h (by omega), fun h => ?_⟩, HB.out⟩
      obtain ⟨m, hm, e⟩ := List.any_eq_true.1 h
      obtain ⟨j, hj, e2⟩ := List.getElem_of_mem hm
      have := HZ.out j hj hj
      rw [e2, e] at this
      cases this

set_option maxHeartbeats 1000000 in
theorem containsOf_any (A : Option Addr) (n c : Nat) (l : List Rm) (g : Nat) (k : Int) (s : List UInt8) (w : World) (hl : l.length = n) (hn : n ≤ 100000000) (hr : RC w A (rmc l)) (h1 : w.cell? ⟨g, 0, none⟩ = some (.int .i64 k)) (h2 : w.cell? ⟨g + 1, 0, none⟩ = some (.string (strB s))) :
    Calls Try.prog 76 #[.slice A n c, .func (.func 77) #[] #[.pointer (some ⟨g, 0, none⟩), .pointer (some ⟨g + 1, 0, none⟩)]] w fun e w' => e = .returned (.bool (l.any (ofP k s))) ∧ Below w.heap.size w w' := by
  have HR := Lib.hid hr
  have H1 := Lib.hid h1
  have H2 := Lib.hid h2
  clear hr h1 h2
  go_enter Try.func76, Try.ntmps76
  go_wp2_with fail
  refine (indexOf_any A n c l g k s w hl hn HR.out H1.out H2.out).mono ?_
  rintro e w1 ⟨⟨r, rfl, hr⟩, hb⟩
  have HB := Lib.hid hb
  have HD := Lib.hid (show decide (0 ≤ r) = l.any (ofP k s) by
    cases h : l.any (ofP k s) with
    | true => exact decide_eq_true (hr.2 h)
    | false => exact decide_eq_false fun h2 => by rw [hr.1 h2] at h; cases h)
  clear hr hb
  go_wp2_with fail
  go_ret
  exact ⟨ret_bool HD.out, HB.out⟩
end Go.Proofs.Ytjakhemolecbnaa
end
