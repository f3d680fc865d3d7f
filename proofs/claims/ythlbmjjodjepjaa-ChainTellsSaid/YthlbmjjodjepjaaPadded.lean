/-
  The walk of sum.padded.
-/
import Derived.Test.YthlbmjjodjepjaaShaPure
import Derived.Test.YthlbmjjodjepjaaMem
set_option linter.unusedVariables false
set_option linter.unusedSimpArgs false
namespace Go.Proofs.Ythlbmjjodjepjaa
open Go.RowKit

/-- Bytes, the mark, and j noughts. -/
def padA (l : List UInt8) (j : Nat) : List UInt8 := l ++ 128 :: List.replicate j 0
theorem padA_length (l : List UInt8) (j : Nat) : (padA l j).length = l.length + 1 + j := by simp [padA]; omega
theorem padA_zero (l : List UInt8) : padA l 0 = l ++ [128] := rfl
theorem padA_snoc (l : List UInt8) (j : Nat) : padA l (j + 1) = padA l j ++ [0] := by simp [padA, List.replicate_succ']
theorem padOf_eq (l : List UInt8) : padOf l = padA l (padZ l.length) ++ lenBytes (l.length * 8) 8 := by simp [padOf, padA]
theorem lenBytes_snoc (n i : Nat) : lenBytes n (i + 1) = lenBytes n i ++ [byteAt n (56 - 8 * i)] := by simp [lenBytes, List.range_succ]
theorem u64_len (n : Nat) (h : n ≤ 100000000) : IntKind.u64.wrap (n : Int) = (n : Int) := by
  rw [IntKind.wrap_u64]; omega
theorem byteAt_un8 (n k : Nat) : un8 (byteAt n k) = ((n / 2 ^ k % 256 : Nat) : Int) := by
  unfold un8 byteAt
  rw [show ∀ m : Nat, (UInt8.ofNat m).toNat = m % 256 from fun m => UInt8.toNat_ofNat']

set_option maxHeartbeats 2000000 in
theorem padded_any (A : Option Addr) (n c : Nat) (l : List UInt8) (w : World) (hl : l.length = n) (hn : n ≤ 100000000) (hr : RB w A l) :
    Calls Try.prog 81 #[.slice A n c] w fun e w' => ∃ v, e = .returned v ∧ w'.ownsRow w.heap.size 5 1 v (padOf l).length (bv (padOf l)) ∧ Below w.heap.size w w' := by
  subst hl
  have HR := Lib.hid hr
  clear hr
  go_enter Try.func81, Try.ntmps81
  go_wp2_with (at_builtin; refine append_bytes rfl _ _ 37 rfl w.heap.size 5 Try.underlying37 info8 _ [] rfl (World.ownsRow_lit w #[] 0 (Nat.le_refl _) (by simp [maxLen]) rfl) _ _ _ l rfl rfl (HR.out.below ((Below.refl _ _).alloc (Nat.le_refl _) _)) ?c1 ?c2 ?_)
  case c1 => simp; omega
  case c2 => simp
  intro v w1 ho hg hat
  have ho' : w1.ownsRow w.heap.size 5 1 v l.length (bv l) := by simpa using ho
  have HO := Lib.hid ho'
  have hb1 : Below w.heap.size w w1 := ((Below.refl _ _).alloc (Nat.le_refl _) _).grown hg (by simp) (fun k hk => by simp [Value.ownBlock] at hk; omega)
  have HB := Lib.hid hb1
  clear hb1
  clear ho ho' hg hat
  go_wp2_with (at_builtin; refine append_bytes rfl _ _ 37 rfl w.heap.size 5 Try.underlying37 info8 _ l rfl (HO.out.alloc _) _ 1 _ [128] rfl rfl (RB_new w1 [128] 5) ?c1 ?c2 ?_)
  case c1 => omega
  case c2 => have := HB.out.size; simp; omega
  intro v2 w2 ho2 hg2 hat2
  have ho2' : w2.ownsRow w.heap.size 5 1 v2 (padA l 0).length (bv (padA l 0)) := by rw [padA_zero, List.length_append]; exact ho2
  have HO2 := Lib.hid ho2'
  have hb2 : Below w.heap.size w w2 := (HB.out.alloc HB.out.size _).grown hg2 (by have := HB.out.size; simp; omega) (fun k hk => (World.ownsRow.lt HO.out k hk).1)
  have HB2 := Lib.hid hb2
  clear ho2 ho2' hg2 hat2 hb2 HO HB
  go_wp2_with fail
  go_loopg [3] (padZ l.length) (fun k s3 wr => ∃ j : Nat, j ≤ padZ l.length ∧ k = padZ l.length - j ∧ wr.ownsRow w.heap.size 5 1 s3 (padA l j).length (bv (padA l j)) ∧ Below w.heap.size w wr)
  case atStart => exact ⟨0, Nat.zero_le _, by omega, HO2.out, HB2.out⟩
  case round =>
    obtain ⟨j, hj, hk, hown, hb⟩ := hrel
    have hp64 := padZ_lt l.length
    clear HO2 HB2 hp64
    obtain ⟨A3, c3, rfl, _⟩ := own_slice hown
    by_cases hlt : j < padZ l.length
    · have hne : (((padA l j).length : Int) % 64 != 56) = true := by
        rw [padA_length, bne_iff_ne]; have := padZ_not l.length j hlt; omega
      have hlen : (padA l j).length ≤ 100000065 := by rw [padA_length]; have := padZ_lt l.length; omega
      have HK := Lib.hid hk
      have HO := Lib.hid hown
      have HB := Lib.hid hb
      have HLT := Lib.hid hlt
      clear hk hown hb hlt
      go_wp2_with (at_builtin; refine append_bytes rfl _ _ 37 rfl w.heap.size 5 Try.underlying37 info8 _ (padA l j) rfl (HO.out.alloc _) _ 1 _ [0] rfl rfl (RB_new wr [0] 5) ?c1 ?c2 ?_)
      case c1 => omega
      case c2 => have := HB.out.size; simp; omega
      intro v3 w3 ho3 hg3 _
      have hb3 : Below w.heap.size w w3 := (HB.out.alloc HB.out.size _).grown hg3 (by have := HB.out.size; simp; omega) (fun k hk => (World.ownsRow.lt HO.out k hk).1)
      have HO3 := Lib.hid ho3
      have HB3 := Lib.hid hb3
      clear ho3 hg3 hb3
      go_wp2_with fail
      go_roundg (padZ l.length - (j + 1))
      case measure => have := HK.out; have := HLT.out; omega
      case rel =>
        refine ⟨j + 1, HLT.out, rfl, ?_, HB3.out⟩
        rw [padA_snoc, List.length_append]; exact HO3.out
    · obtain rfl : j = padZ l.length := by omega
      have heq : (((padA l (padZ l.length)).length : Int) % 64 != 56) = false := by
        rw [padA_length, bne_eq_false_iff_eq]; have := padZ_done l.length; omega
      have hlen : (padA l (padZ l.length)).length ≤ 100000065 := by rw [padA_length]; have := padZ_lt l.length; omega
      have HP := Lib.hid (padOf_eq l)
      generalize padA l (padZ l.length) = la at *
      have HO := Lib.hid hown
      have HB := Lib.hid hb
      clear hown hb hk hj hlt
      have hu := u64_len l.length hn
      go_wp2_with fail
      go_loopg [3, 5] 9 (fun k s3 s5 wr => ∃ i : Nat, i ≤ 8 ∧ k = 9 - i ∧ (∃ z : Int, z = 56 - 8 * (i : Int) ∧ s5 = .int .i64 z) ∧ wr.ownsRow w.heap.size 5 1 s3 (la ++ lenBytes (l.length * 8) i).length (bv (la ++ lenBytes (l.length * 8) i)) ∧ Below w.heap.size w wr)
      case atStart => exact ⟨0, Nat.zero_le _, by omega, ⟨56, by omega, rfl⟩, by rw [show lenBytes (l.length * 8) 0 = [] from rfl, List.append_nil]; exact HO.out, HB.out⟩
      case round =>
        obtain ⟨i, hi, hk, ⟨z, hz, rfl⟩, hown, hb⟩ := hrel
        clear HO HB
        have hlb : (lenBytes (l.length * 8) i).length = i := lenBytes_length _ _
        have HK := Lib.hid hk
        have HO := Lib.hid hown
        have HB := Lib.hid hb
        clear hk hown hb
        by_cases hlt : i < 8
        · have hz0 : 0 ≤ z := by omega
          have hz1 : z ≤ 56 := by omega
          have hB : (l.length : Int) * 8 / 2 ^ z.toNat % 256 = un8 (byteAt (l.length * 8) (56 - 8 * i)) := by
            rw [byteAt_un8, show z.toNat = 56 - 8 * i by omega, Int.natCast_emod, Int.natCast_ediv, Int.natCast_pow, Int.natCast_mul]
            rfl
          have HS := Lib.hid (lenBytes_snoc (l.length * 8) i)
          have HZ := Lib.hid hz
          have HLT := Lib.hid hlt
          have HI := Lib.hid hi
          clear hz hlt hi
          generalize lenBytes (l.length * 8) i = lb at *
          generalize byteAt (l.length * 8) (56 - 8 * i) = bb at *
          have HLB := Lib.hid hlb
          go_wp2_with (at_builtin; refine append_bytes rfl _ _ 37 rfl w.heap.size 5 Try.underlying37 info8 _ (la ++ lb) rfl (HO.out.alloc _) _ 1 _ [bb] rfl rfl (RB_new wr [bb] 5) ?c1 ?c2 ?_)
          case c1 => have := HI.out; simp; omega
          case c2 => have := HB.out.size; simp; omega
          intro v3 w3 ho3 hg3 _
          have hb3 : Below w.heap.size w w3 := (HB.out.alloc HB.out.size _).grown hg3 (by have := HB.out.size; simp; omega) (fun k hk => (World.ownsRow.lt HO.out k hk).1)
          have HO3 := Lib.hid ho3
          have HB3 := Lib.hid hb3
          clear ho3 hg3 hb3
          go_wp2_with fail
          go_roundg (9 - (i + 1))
          case measure => have := HK.out; have := HLT.out; omega
          case rel =>
            refine ⟨i + 1, HLT.out, rfl, ⟨_, ?_, rfl⟩, ?_, HB3.out⟩
            · have := HZ.out; omega
            · have := HLB.out; rw [HS.out, show (la ++ (lb ++ [bb])).length = la.length + i + 1 by simp; omega]; exact HO3.out
        · obtain rfl : i = 8 := by omega
          obtain rfl : z = -8 := by omega
          rw [← HP.out] at HO
          clear hlb
          go_wp2_with fail
          go_ret
          exact ⟨_, rfl, HO.out, HB.out⟩

end Go.Proofs.Ythlbmjjodjepjaa
