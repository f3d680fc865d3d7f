/-
  The walks of package hist: the clones, Copy.
-/
import Derived.Test.YtiefgnmekikckaaMaps
import Derived.Test.YtiefgnmekikckaaBlock
import Derived.Laws.ResultCell
import Derived.BigRegion
import Derived.Lib.SliceRun
set_option linter.unusedVariables false
set_option linter.unusedSimpArgs false
namespace Go.Proofs.Ytiefgnmekikckaa
open Go.RowKit

theorem infoOp : (Try.prog.info? 82).map (fun i => (i.zero, i.size, i.bytes)) = some (some (.agg #[.int .i64 0, .string ⟨#[]⟩, .string ⟨#[]⟩, .int .i64 0]), 4, 48) := by kernel_rfl
theorem setCell_at {w : World} {p j : Nat} {cs : Array Value} {t : TypeId} {fr : Nat × Nat} (h : w.heap[p]? = some (.cells cs t fr)) (u : Value) : (w.setCell ⟨p, j, none⟩ u).heap[p]? = some (.cells (cs.setIfInBounds j u) t fr) := by
  simp [World.setCell, Array.getElem?_modify, h]

set_option maxHeartbeats 1000000 in
/-- slices.Clone of operations: a slice of new memory. -/
theorem cloneOps_any (A : Option Addr) (n c : Nat) (l : List Value) (w : World) (hl : l.length = n * 4) (hn : n * 48 ≤ 140737488355328) (hr : RC w A l) (h1 : ∀ u ∈ l, u.oneCell' = true) (hnil : A = none → c = 0 ∧ n = 0) :
    Calls Try.prog 45 #[.slice A n c] w fun e w' => ∃ A' c', e = .returned (.slice A' n c') ∧ Below w.heap.size w w' := by
  rcases A with _ | ad
  · obtain ⟨rfl, rfl⟩ := hnil rfl
    clear hr hnil h1 hl
    have he := fun w => Lib.run_eql_slice_nil (P := Try.prog) w 60 82 none 0 0 0 0 Try.underlying60
    go_enter Try.func45, Try.ntmps45
    go_wp2
    go_ret
    exact ⟨_, _, rfl, Below.refl _ _⟩
  · clear hnil
    have HR := Lib.hid hr
    have HL := Lib.hid hl
    have H1 := Lib.hid h1
    clear hr hl h1
    have he := fun w => Lib.run_eql_slice_nil (P := Try.prog) w 60 82 (some ad) n c 0 0 Try.underlying60
    go_enter Try.func45, Try.ntmps45
    go_wp2_with (at_builtin; refine append_any rfl _ _ 60 rfl w.heap.size 82 _ 4 48 Try.underlying60 infoOp rfl (by omega) (by omega) _ 0 [] rfl (World.ownsRow_lit w #[] 0 (Nat.le_refl _) (by simp [maxLen]) rfl) _ n _ l rfl HL.out (HR.out.below ((Below.refl _ _).alloc (Nat.le_refl _) _)) H1.out ?c1 ?c2 ?_)
    case c1 => omega
    case c2 => simp
    intro v w1 ho hg hat
    obtain ⟨A', c', rfl, _⟩ := own_slice ho
    have HG := Lib.hid hg
    clear ho hg hat
    go_wp2
    go_ret
    exact ⟨A', c', by simp, ((Below.refl _ _).alloc (Nat.le_refl _) _).grown HG.out (by simp) (fun k hk => by simp [Value.ownBlock] at hk; omega)⟩

set_option maxHeartbeats 1000000 in
/-- slices.Clone of strings: a slice of new memory that reads the same. -/
theorem cloneStrs_any (A : Option Addr) (n c : Nat) (L : List (List UInt8)) (w : World) (hl : L.length = n) (hn : n * 16 ≤ 140737488355328) (hr : RS w A L) (hnil : A = none → c = 0 ∧ n = 0) :
    Calls Try.prog 53 #[.slice A n c] w fun e w' => ∃ A' c', e = .returned (.slice A' n c') ∧ Below w.heap.size w w' := by
  rcases A with _ | ad
  · obtain ⟨rfl, rfl⟩ := hnil rfl
    clear hr hnil hl
    have he := fun w => Lib.run_eql_slice_nil (P := Try.prog) w 61 9 none 0 0 0 0 Try.underlying61
    go_enter Try.func53, Try.ntmps53
    go_wp2
    go_ret
    exact ⟨_, _, rfl, Below.refl _ _⟩
  · clear hnil
    have HR := Lib.hid hr
    have HL := Lib.hid hl
    clear hr hl
    have he := fun w => Lib.run_eql_slice_nil (P := Try.prog) w 61 9 (some ad) n c 0 0 Try.underlying61
    go_enter Try.func53, Try.ntmps53
    go_wp2_with (at_builtin; refine append_any rfl _ _ 61 rfl w.heap.size 9 _ 1 16 Try.underlying61 infoS rfl (by omega) (by omega) _ 0 [] rfl (World.ownsRow_lit w #[] 0 (Nat.le_refl _) (by simp [maxLen]) rfl) _ n _ (sv L) rfl (by rw [sv_length, HL.out, Nat.mul_one]) (HR.out.below ((Below.refl _ _).alloc (Nat.le_refl _) _)) (sv_one L) ?c1 ?c2 ?_)
    case c1 => omega
    case c2 => simp
    intro v w1 ho hg hat
    obtain ⟨A', c', rfl, _⟩ := own_slice ho
    have HG := Lib.hid hg
    clear ho hg hat
    go_wp2
    go_ret
    exact ⟨A', c', by simp, ((Below.refl _ _).alloc (Nat.le_refl _) _).grown HG.out (by simp) (fun k hk => by simp [Value.ownBlock] at hk; omega)⟩

theorem infoRep : (Try.prog.info? 63).map (·.size) = some 4 := by kernel_rfl

set_option maxHeartbeats 1000000 in
/-- hist.Copy: the numbers stay; the texts are a slice of new memory. -/
theorem copy_any (o tt y : Int) (A : Option Addr) (n c : Nat) (L : List (List UInt8)) (w : World) (hl : L.length = n) (hn : n * 16 ≤ 140737488355328) (hr : RS w A L) (hnil : A = none → c = 0 ∧ n = 0) :
    Calls Try.prog 46 #[.agg #[.int .i64 o, .slice A n c, .int .i64 tt, .int .i64 y]] w fun e w' => ∃ A' c', e = .returned (.agg #[.int .i64 o, .slice A' n c', .int .i64 tt, .int .i64 y]) ∧ Below w.heap.size w w' := by
  have HR := Lib.hid hr
  have HN := Lib.hid hnil
  clear hr hnil
  go_enter Try.func46, Try.ntmps46
  go_wp2_with fail
  refine (cloneStrs_any A n c L _ hl hn ((HR.out.below ((Below.refl _ _).alloc (Nat.le_refl _) _)).below ((Below.refl _ _).alloc (Nat.le_refl _) _)) HN.out).mono ?_
  rintro e w1 ⟨A1, c1, rfl, hb⟩
  have HB := Lib.hid hb
  have hx : w1.heap[w.heap.size]? = some (.cells #[.int .i64 o, .slice A n c, .int .i64 tt, .int .i64 y] 63 (0, 0)) := (HB.out.block _ (by simp; omega)).trans ((Below.heap_alloc _ _ _ (by simp)).trans (heap_alloc_new w _))
  have hy : w1.heap[w.heap.size + 1]? = some (.cells #[.int .i64 0, .slice none 0 0, .int .i64 0, .int .i64 0] 63 (0, 0)) := (HB.out.block _ (by simp)).trans (by
    have h := heap_alloc_new (w.alloc (.cells #[.int .i64 o, .slice A n c, .int .i64 tt, .int .i64 y] 63)) (.cells #[.int .i64 0, .slice none 0 0, .int .i64 0, .int .i64 0] 63)
    simpa using h)
  clear hb
  have k0 : w1.cell? ⟨w.heap.size, 0, none⟩ = some (.int .i64 o) := (cell_of_row w1 _ 0 _ _ _ hx).trans rfl
  have k1 : w1.cell? ⟨w.heap.size, 1, none⟩ = some (.slice A n c) := (cell_of_row w1 _ 1 _ _ _ hx).trans rfl
  have k2 : w1.cell? ⟨w.heap.size, 2, none⟩ = some (.int .i64 tt) := (cell_of_row w1 _ 2 _ _ _ hx).trans rfl
  have k3 : w1.cell? ⟨w.heap.size, 3, none⟩ = some (.int .i64 y) := (cell_of_row w1 _ 3 _ _ _ hx).trans rfl
  have g1 := frozen_of_row w1 w.heap.size 1 _ _ hx
  have l0 : w1.cell? ⟨w.heap.size + 1, 0, none⟩ = some (.int .i64 0) := (cell_of_row w1 _ 0 _ _ _ hy).trans rfl
  have l1 : w1.cell? ⟨w.heap.size + 1, 1, none⟩ = some (.slice none 0 0) := (cell_of_row w1 _ 1 _ _ _ hy).trans rfl
  have l2 : w1.cell? ⟨w.heap.size + 1, 2, none⟩ = some (.int .i64 0) := (cell_of_row w1 _ 2 _ _ _ hy).trans rfl
  have l3 : w1.cell? ⟨w.heap.size + 1, 3, none⟩ = some (.int .i64 0) := (cell_of_row w1 _ 3 _ _ _ hy).trans rfl
  have f0 := frozen_of_row w1 (w.heap.size + 1) 0 _ _ hy
  have f1 := frozen_of_row w1 (w.heap.size + 1) 1 _ _ hy
  have f2 := frozen_of_row w1 (w.heap.size + 1) 2 _ _ hy
  have f3 := frozen_of_row w1 (w.heap.size + 1) 3 _ _ hy
  have HY := Lib.hid hy
  clear hx hy
  have hz : (((((w1.setCell ⟨w.heap.size, 1, none⟩ (.slice A1 n c1)).setCell ⟨w.heap.size + 1, 0, none⟩ (.int .i64 o)).setCell ⟨w.heap.size + 1, 1, none⟩ (.slice A1 n c1)).setCell ⟨w.heap.size + 1, 2, none⟩ (.int .i64 tt)).setCell ⟨w.heap.size + 1, 3, none⟩ (.int .i64 y)).heap[w.heap.size + 1]? = some (.cells #[.int .i64 o, .slice A1 n c1, .int .i64 tt, .int .i64 y] 63 (0, 0)) := by
    rw [setCell_at (setCell_at (setCell_at (setCell_at ((Below.heap_setCell _ _ _ _ (by simp)).trans HY.out) _) _) _) _]
    rfl
  have HZ := Lib.hid hz
  have HBB := Lib.hid (show Below w.heap.size w w1 from below_below (((Below.refl _ _).alloc (Nat.le_refl _) _).alloc (by simp) _) (by simp; omega) HB.out)
  clear hz HY
  go_wp2_with fail
  try simp only [Exit.inBlock, Exit.then]
  refine bodyPost_ret (v := .agg #[.int .i64 o, .slice A1 n c1, .int .i64 tt, .int .i64 y]) ?_ rfl ?_
  · exact results_cell_row rfl _ _ (w.heap.size + 1) 63 _ (0, 0) _ rfl HZ.out Try.underlying63 rfl infoRep
  · exact ⟨A1, c1, rfl, ((((HBB.out.setCell (by simp) _).setCell (by simp) _).setCell (by simp) _).setCell (by simp) _).setCell (by simp) _⟩

end Go.Proofs.Ytiefgnmekikckaa
