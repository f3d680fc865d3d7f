/-
  The reference's links: held against each other, and built.
-/
import Derived.Test.YthlbmjjodjepjaaReadBad
import Derived.Test.YthlbmjjodjepjaaRefNext
set_option linter.unusedVariables false
set_option linter.unusedSimpArgs false
namespace Go.Proofs.Ythlbmjjodjepjaa
open Go.RowKit

theorem cellsLk2 : Try.prog.cellsOf 84 = 33 := by kernel_rfl
theorem keyLitsLk2 (d : Nat) (s x : List UInt8) (hs : s.length ≤ 1000000) (hx : x.length = 32) : Try.prog.keyLits (d + 3) 84 (lk (s, x)) = some (.string s :: x.map lit8) := by
  unfold Program.keyLits
  simp only [Try.underlying84]
  rw [if_pos ⟨by rw [lk_length _ hx, cellsLk2], by kernel_rfl⟩]
  simp only [List.mapM_cons, List.mapM_nil, cellsS, cells28]
  have e0 : ((lk (s, x)).drop 0).take 1 = [.string (strB s)] := rfl
  have e1 : ((lk (s, x)).drop 1).take 32 = bv x := by
    show (bv x).take 32 = bv x
    rw [List.take_of_length_le (by rw [bv_length, hx]; omega)]
  rw [e0, e1, keyLitS (d + 1) s hs, keyLits32 d x hx]
  simp
theorem formedLk2 (s x : List UInt8) (hx : x.length = 32) : (Value.agg (lk (s, x)).toArray).formed Try.prog 84 = true := by
  simp only [Value.formed, Try.underlying84, cellsLk2, List.size_toArray, lk_length (s, x) hx]
  rfl
/-- Two links. -/
theorem eqLk2 (a b : List UInt8 × List UInt8) (ha : a.1.length ≤ 1000000) (hb : b.1.length ≤ 1000000) (hx : a.2.length = 32) (hy : b.2.length = 32) (w : World) :
    (Op.equalIn 10000 84 (.agg (lk a).toArray) (.agg (lk b).toArray)).run Try.prog w = .ok (decide (a = b)) w := by
  obtain ⟨s, x⟩ := a
  obtain ⟨t, y⟩ := b
  obtain ⟨r, hr, hiff⟩ := run_equalIn_deep (P := Try.prog) 9997 3 84 (by kernel_rfl) w 3 3 (.agg (lk (s, x)).toArray) (.agg (lk (t, y)).toArray) _ _ (formedLk2 s x hx) (formedLk2 t y hy) (keyLitsLk2 0 s x ha hx) (keyLitsLk2 0 t y hb hy)
  have e : r = decide ((s, x) = (t, y)) := by
    by_cases h : (s, x) = (t, y)
    · rw [decide_eq_true h]; exact hiff.2 (by cases h; rfl)
    · rw [decide_eq_false h]
      cases r with
      | false => rfl
      | true =>
        have h2 := hiff.1 rfl
        simp only [List.cons.injEq, Lit.string.injEq] at h2
        exact absurd (by rw [h2.1, lits_inj h2.2]) h
  rw [← e]
  exact hr

theorem infoLkr : (Try.prog.info? 84).map (fun i => (i.zero, i.size, i.bytes)) = some (some (.agg (lk ([], hd0)).toArray), 33, 48) := by kernel_rfl
theorem info33r : (Try.prog.info? 84).map (·.size) = some 33 := by kernel_rfl
theorem built_link2 (s h : List UInt8) (hh : h.length = 32) : Try.prog.built 84 [(0, .string (strB s)), (1, .agg (bv h).toArray)] = some (lk (s, h)).toArray := by
  rw [← range_bt h hh]
  unfold lk
  simp only []
  generalize strB s = q
  generalize bt h = f
  kernel_rfl
theorem built_one2 (s h : List UInt8) (hh : h.length = 32) : Try.prog.builtSlice 84 1 [(0, .agg (lk (s, h)).toArray)] = some (lk (s, h)).toArray := by
  rw [← range_bt h hh]
  unfold lk
  simp only []
  generalize strB s = q
  generalize bt h = f
  kernel_rfl


end Go.Proofs.Ythlbmjjodjepjaa
