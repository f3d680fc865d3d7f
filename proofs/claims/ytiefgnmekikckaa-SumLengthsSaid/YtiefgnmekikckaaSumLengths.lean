/-
  The walk of the law SumLengths.
-/
import Derived.Test.YtiefgnmekikckaaSumNumbers
import Derived.Test.YtiefgnmekikckaaRefSha
import Derived.Test.YtiefgnmekikckaaRefCrc
import Derived.Test.YtiefgnmekikckaaWithin
import Derived.Laws.StructEq
set_option linter.unusedVariables false
set_option linter.unusedSimpArgs false
namespace Go.Proofs.Ytiefgnmekikckaa
open Go.RowKit

theorem part8 (xs : List UInt8) (i : Nat) (hi : i < xs.length) (w : World) : (part 5 (bv xs).toArray i).run Try.prog w = .ok (.int .u8 (un8 xs[i])) w := by
  have hl : ((bv xs).toArray)[i]? = some (.int .u8 (un8 xs[i])) := by simpa [B8] using bv_get xs i hi
  simp [part, go_sem, hl]

theorem forIn_calm {α β : Type} (ls : List α) (b : β) (f : α → β → Sem (ForInStep β)) (w : World) (h : ∀ i ∈ ls, (f i b).run Try.prog w = .ok (.yield b) w) : (forIn ls b f).run Try.prog w = .ok b w := by
  induction ls with
  | nil => simp
  | cons i ls ih =>
    rw [List.forIn_cons, Sem.run_bind, h i (by simp)]
    simp only [Result.andThen_ok]
    exact ih (fun j hj => h j (by simp [hj]))
theorem equalIn_same (xs : List UInt8) (hx : xs.length = 32) (w : World) (d : Nat) : (Op.equalIn (d + 2) 72 (.agg (bv xs).toArray) (.agg (bv xs).toArray)).run Try.prog w = .ok true w := by
  have hsz : (sizeOf 5).run Try.prog w = .ok 1 w := by simp [go_sem]
  unfold Op.equalIn
  simp only [Sem.run_bind, run_underlying Try.underlying72, Result.andThen_ok, hsz]
  rw [Std.Legacy.Range.forIn_eq_forIn_range']
  rw [forIn_calm]
  · simp
  · intro i hi
    have hi' : i < xs.length := by simp at hi; omega
    have h1 := part8 xs i hi' w
    have h2 := fun a b => run_equalIn_int (P := Try.prog) w d 5 .u8 .u8 a b Try.underlying5
    simp only [Nat.mul_one, Sem.run_bind, h1, Result.andThen_ok, h2]
    simp
theorem eql_same (xs : List UInt8) (hx : xs.length = 32) (w : World) : (binOp .eql 72 (.agg (bv xs).toArray) (.agg (bv xs).toArray)).run Try.prog w = .ok (.bool true) w := by
  rw [run_eql_struct, equalIn_same xs hx w 9998]
  rfl

set_option maxRecDepth 10000 in
set_option maxHeartbeats 2000000 in
theorem sumLengths_any (n : Int) (w : World) : Calls Try.prog 12 #[.int .i64 n] w fun e w' => e = .returned (.bool true) ∧ Below w.heap.size w w' := by
  go_enter Try.func12, Try.ntmps12
  go_wp2_with fail
  refine (within_any n 0 200 _ (by omega) (by omega) (by omega) (by omega)).mono ?_
  rintro e w1 ⟨rfl, rfl⟩
  have hw := withinOf_range n 0 200 (by omega)
  obtain ⟨m, hm⟩ := Int.eq_ofNat_of_zero_le hw.1
  have hm2 : m ≤ 200 := by omega
  rw [hm]
  clear hw hm
  have mk := mk8_any m (by omega)
  go_wp2_with fail
  refine (sha_any _ m m (List.replicate m 0) _ (by simp) (by omega) (made_zeros w m)).mono ?_
  rintro e w2 ⟨rfl, hb2⟩
  obtain ⟨l, hl⟩ : ∃ l : List UInt8, l = List.replicate m 0 := ⟨_, rfl⟩
  have HR := Lib.hid ((made_zeros w m).below hb2)
  rw [← hl] at HR ⊢
  have HL := Lib.hid (show l.length = m by rw [hl]; simp)
  have HB2 := Lib.hid (below_below ((Below.refl _ _).alloc (Nat.le_refl _) _) (by simp) hb2)
  clear hb2 hl
  obtain ⟨cs, hcs⟩ : ∃ cs, cs = (bv (shaOf l)).toArray := ⟨_, rfl⟩
  have he : ∀ w, (binOp .eql 72 (.agg cs) (.agg cs)).run Try.prog w = .ok (.bool true) w := fun w => by rw [hcs]; exact eql_same _ (shaOf_length l) w
  have he2 : ∀ w, (Op.equalIn 10000 72 (.agg cs) (.agg cs)).run Try.prog w = .ok true w := fun w => by rw [hcs]; exact equalIn_same _ (shaOf_length l) w 9998
  rw [← hcs]
  have HCS := Lib.hid hcs
  clear hcs
  go_wp2_with fail
  refine (refSha_any _ m m l _ HL.out (by omega) HR.out).mono ?_
  rintro e w3 ⟨rfl, hb3⟩
  rw [← HCS.out]
  have HR3 := Lib.hid (HR.out.below hb3)
  have HB3 := Lib.hid (below_below HB2.out HB2.out.size hb3)
  clear hb3 HR HB2
  go_wp2_with fail
  refine (crc_any _ m m l _ HL.out (by omega) HR3.out).mono ?_
  rintro e w4 ⟨rfl, rfl⟩
  go_wp2_with fail
  refine (refCrc_any _ m m l _ HL.out (by omega) HR3.out).mono ?_
  rintro e w4 ⟨rfl, rfl⟩
  go_wp2_with fail
  refine (known2_any _).mono ?_
  rintro e w5 ⟨rfl, hb5⟩
  have HB5 := Lib.hid (below_below HB3.out HB3.out.size hb5)
  clear hb5
  go_wp2_with fail
  go_ret
  exact ⟨rfl, HB5.out⟩

end Go.Proofs.Ytiefgnmekikckaa
