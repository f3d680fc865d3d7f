/-
  Two heads, or two links, held against each other.
-/
import Derived.Test.YthlbmjjodjepjaaChain
import Derived.DeepKeys
set_option linter.unusedVariables false
set_option linter.unusedSimpArgs false
namespace Go.Proofs.Ythlbmjjodjepjaa
open Go.RowKit

theorem mapM_some {α β : Type} (f : α → Option β) (g : α → β) : ∀ l : List α, (∀ a ∈ l, f a = some (g a)) → l.mapM f = some (l.map g)
  | [], _ => by simp
  | a :: l, h => by
    rw [List.mapM_cons, h a (by simp), mapM_some f g l (fun b hb => h b (by simp [hb]))]
    rfl
theorem flatten_singles {α β : Type} (f : α → β) : ∀ l : List α, (l.map fun a => [f a]).flatten = l.map f
  | [] => rfl
  | a :: l => by rw [List.map_cons, List.flatten_cons, flatten_singles f l]; rfl
def lit8 (b : UInt8) : Lit := .int .u8 (un8 b)
theorem lit8_wf (b : UInt8) : (lit8 b).wf = true := by
  have h : b.toNat < 256 := b.toNat_lt
  unfold lit8 un8
  simp [Lit.wf, IntKind.min, IntKind.max, IntKind.signed, IntKind.bits]
  omega
theorem lit8_inj {a b : UInt8} (h : lit8 a = lit8 b) : a = b := by
  unfold lit8 un8 at h
  simp only [Lit.int.injEq, true_and] at h
  exact UInt8.toNat_inj.1 (by omega)
theorem lits_inj : ∀ {x y : List UInt8}, x.map lit8 = y.map lit8 → x = y
  | [], [], _ => rfl
  | [], _ :: _, h => by simp at h
  | _ :: _, [], h => by simp at h
  | a :: x, b :: y, h => by
    simp only [List.map_cons, List.cons.injEq] at h
    rw [lit8_inj h.1, lits_inj h.2]
theorem range_bt (x : List UInt8) (hx : x.length = 32) : (List.range 32).map (bt x) = x := by
  apply List.ext_getElem
  · simp [hx]
  · intro i h1 h2
    simp [bt, List.getD_eq_getElem?_getD, List.getElem?_eq_getElem h2]

theorem cells28 : Try.prog.cellsOf 28 = 32 := by kernel_rfl
theorem cells8 : Try.prog.cellsOf 5 = 1 := by kernel_rfl
theorem keyLit8 (d : Nat) (b : UInt8) : Try.prog.keyLits (d + 1) 5 [.int .u8 (un8 b)] = some [lit8 b] := by
  have h := lit8_wf b
  unfold lit8 at h
  simp only [Program.keyLits, Try.underlying5]
  rw [if_pos ⟨trivial, h⟩]
  rfl
theorem keyLits32 (d : Nat) (x : List UInt8) (hx : x.length = 32) : Try.prog.keyLits (d + 2) 28 (bv x) = some (x.map lit8) := by
  have key : ∀ i ∈ List.range 32, Try.prog.keyLits (d + 1) 5 (((bv x).drop (i * Try.prog.cellsOf 5)).take (Try.prog.cellsOf 5)) = some [lit8 (bt x i)] := by
    intro i hi
    have hi' := List.mem_range.1 hi
    have hl := bv_length x
    rw [cells8, Nat.mul_one]
    have e : ((bv x).drop i).take 1 = [.int .u8 (un8 (bt x i))] := by
      rw [List.drop_eq_getElem_cons (by omega), List.take_succ_cons, List.take_zero]
      simp [bv, B8, bt, List.getD_eq_getElem?_getD, List.getElem?_eq_getElem (show i < x.length by omega)]
    rw [e]
    exact keyLit8 d _
  have h2 := mapM_some _ (fun i => [lit8 (bt x i)]) _ key
  unfold Program.keyLits
  simp only [Try.underlying28]
  rw [if_pos (by rw [bv_length, hx, cells28]), h2]
  simp only [Option.map_some]
  rw [flatten_singles (fun i => lit8 (bt x i))]
  have h3 : (List.range 32).map (fun i => lit8 (bt x i)) = ((List.range 32).map (bt x)).map lit8 := by rw [List.map_map]; rfl
  rw [h3, range_bt x hx]
theorem formed32 (x : List UInt8) (hx : x.length = 32) : (Value.agg (bv x).toArray).formed Try.prog 28 = true := by
  simp only [Value.formed, Try.underlying28, cells28, List.size_toArray, bv_length, hx]
  rfl
/-- Two heads. -/
theorem eq32 (x y : List UInt8) (hx : x.length = 32) (hy : y.length = 32) (w : World) : (Op.equalIn 10000 28 (.agg (bv x).toArray) (.agg (bv y).toArray)).run Try.prog w = .ok (decide (x = y)) w := by
  obtain ⟨r, hr, hiff⟩ := run_equalIn_deep (P := Try.prog) 9998 2 28 (by kernel_rfl) w 2 2 (.agg (bv x).toArray) (.agg (bv y).toArray) _ _ (formed32 x hx) (formed32 y hy) (keyLits32 0 x hx) (keyLits32 0 y hy)
  have e : r = decide (x = y) := by
    by_cases h : x = y
    · rw [decide_eq_true h]; exact hiff.2 (by rw [h])
    · rw [decide_eq_false h]
      cases r with
      | false => rfl
      | true => exact absurd (lits_inj (hiff.1 rfl)) h
  rw [← e]
  exact hr

theorem cellsLk : Try.prog.cellsOf 30 = 33 := by kernel_rfl
theorem cellsS : Try.prog.cellsOf 9 = 1 := by kernel_rfl
theorem keyLitS (d : Nat) (s : List UInt8) (hs : s.length ≤ 1000000) : Try.prog.keyLits (d + 1) 9 [.string (strB s)] = some [.string s] := by
  simp only [Program.keyLits, Try.underlying9]
  rw [if_pos (by rw [strB_size]; simp [maxLen]; omega), strB_toList]
theorem keyLitsLk (d : Nat) (s x : List UInt8) (hs : s.length ≤ 1000000) (hx : x.length = 32) : Try.prog.keyLits (d + 3) 30 (lk (s, x)) = some (.string s :: x.map lit8) := by
  unfold Program.keyLits
  simp only [Try.underlying30]
  rw [if_pos ⟨by rw [lk_length _ hx, cellsLk], by kernel_rfl⟩]
  simp only [List.mapM_cons, List.mapM_nil, cellsS, cells28]
  have e0 : ((lk (s, x)).drop 0).take 1 = [.string (strB s)] := rfl
  have e1 : ((lk (s, x)).drop 1).take 32 = bv x := by
    show (bv x).take 32 = bv x
    rw [List.take_of_length_le (by rw [bv_length, hx]; omega)]
  rw [e0, e1, keyLitS (d + 1) s hs, keyLits32 d x hx]
  simp
theorem formedLk (s x : List UInt8) (hx : x.length = 32) : (Value.agg (lk (s, x)).toArray).formed Try.prog 30 = true := by
  simp only [Value.formed, Try.underlying30, cellsLk, List.size_toArray, lk_length (s, x) hx]
  rfl
/-- Two links. -/
theorem eqLk (a b : List UInt8 × List UInt8) (ha : a.1.length ≤ 1000000) (hb : b.1.length ≤ 1000000) (hx : a.2.length = 32) (hy : b.2.length = 32) (w : World) :
    (Op.equalIn 10000 30 (.agg (lk a).toArray) (.agg (lk b).toArray)).run Try.prog w = .ok (decide (a = b)) w := by
  obtain ⟨s, x⟩ := a
  obtain ⟨t, y⟩ := b
  obtain ⟨r, hr, hiff⟩ := run_equalIn_deep (P := Try.prog) 9997 3 30 (by kernel_rfl) w 3 3 (.agg (lk (s, x)).toArray) (.agg (lk (t, y)).toArray) _ _ (formedLk s x hx) (formedLk t y hy) (keyLitsLk 0 s x ha hx) (keyLitsLk 0 t y hb hy)
  have e : r = decide ((s, x) = (t, y)) := by
    by_cases h : (s, x) = (t, y)
    · rw [decide_eq_true h]; exact hiff.2 (by cases h; rfl)
    · rw [decide_eq_false h]
      cases r with
      | false => rfl
      | true =>
        have h2 := hiff.1 rfl
        simp only [List.cons.injEq, Lit.string.injEq] at h2
        exact absurd (by rw [h2.1, lits_inj h2.2]) h
  rw [← e]
  exact hr

end Go.Proofs.Ythlbmjjodjepjaa
