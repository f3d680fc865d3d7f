/-
  The walk of the law's 'known': chapter 21's runs.
-/
import Derived.Test.YtiefgnmekikckaaHistOps
set_option linter.unusedVariables false
set_option linter.unusedSimpArgs false
namespace Go.Proofs.Ytiefgnmekikckaa
open Go.RowKit

/-- An event with a kind and a client, and nothing else. -/
def evk (k c : Int) : Ev := ⟨k, c, none, 0, 0, [], 0, none, 0, 0, [], 0, 0⟩
theorem evk_ok (w : World) (k c : Int) (hk : in64 k) (hc : in64 c) : EvOk w (evk k c) :=
  ⟨rfl, (show 0 * 48 ≤ _ by omega), RC.nil _ _, (fun u hu => by cases hu), fun _ => ⟨rfl, rfl⟩, rfl, (show 0 * 16 ≤ _ by omega), RC.nil _ _, fun _ => ⟨rfl, rfl⟩, hk, hc⟩
theorem in64_small {k : Int} (h0 : -1000 ≤ k) (h1 : k ≤ 1000) : in64 k := ⟨by omega, by omega⟩

/-- What hist.Ops gives where nothing is refused. -/
theorem ops_fine {A : Option Addr} {n c : Nat} {L : List Ev} {w : World} (Pf : List Pc × (Int → Nat)) (hl : L.length = n) (hn : n ≤ 1000) (hr : RE w A L) (h : hrun (L.map kc) 0 hstart = .ok Pf) :
    Calls Try.prog 34 #[.slice A n c] w fun e w' => ∃ x H, e = .returned (.tuple #[x, .int .i64 0, .int .i64 0]) ∧ H.map Ho.plain = Pf.1 ∧ w'.ownsRow w.heap.size 67 8 x H.length (hcells H) ∧ Below w.heap.size w w' := by
  refine (ops_any A n c L w hl hn hr).mono ?_
  rintro e w' (⟨Pf', x, H, h1, h2, h3, h4, h5⟩ | ⟨i, h1, _⟩)
  · rw [h] at h1
    cases h1
    exact ⟨x, H, h2, h3, h4, h5⟩
  · rw [h] at h1
    cases h1
theorem ops_bad {A : Option Addr} {n c : Nat} {L : List Ev} {w : World} (i : Nat) (hl : L.length = n) (hn : n ≤ 1000) (hr : RE w A L) (h : hrun (L.map kc) 0 hstart = .error i) :
    Calls Try.prog 34 #[.slice A n c] w fun e w' => e = .returned (.tuple #[.slice none 0 0, .int .i64 12, .int .i64 (i : Int)]) ∧ Below w.heap.size w w' := by
  refine (ops_any A n c L w hl hn hr).mono ?_
  rintro e w' (⟨Pf', x, H, h1, h2, h3, h4, h5⟩ | ⟨j, h1, h2, h3⟩)
  · rw [h] at h1
    cases h1
  · rw [h] at h1
    cases h1
    exact ⟨h2, h3⟩

def kl : List Ev := [evk 1 0, evk 1 1, evk 2 0]
theorem kl_run : ∃ f, hrun (kl.map kc) 0 hstart = .ok ([(0, 0, 2), (1, 1, -1)], f) := ⟨_, rfl⟩
theorem kl2_run : hrun ([evk 2 0].map kc) 0 hstart = .error 0 := rfl

set_option maxRecDepth 100000 in
set_option maxHeartbeats 8000000 in
theorem known21_any (w : World) : Calls Try.prog 35 #[] w fun e w' => e = .returned (.bool true) ∧ Below w.heap.size w w' := by
  obtain ⟨f, hf⟩ := kl_run
  have HF := Lib.hid hf
  clear hf
  go_enter Try.func35, Try.ntmps35
  go_wp2_with fail
  have hr : ∀ (l : List Ev), (∀ q ∈ l, EvOk (w.alloc (.cells (l.flatMap Ev.cells).toArray 65)) q) → RE (w.alloc (.cells (l.flatMap Ev.cells).toArray 65)) (some ⟨w.heap.size, 0, none⟩) l := fun l hl => ⟨RC_newL w _ _, hl⟩
  have h1 := hr kl (fun q hq => by
    simp only [kl, List.mem_cons, List.not_mem_nil, or_false] at hq
    rcases hq with rfl | rfl | rfl <;> exact evk_ok _ _ _ (in64_small (by decide) (by decide)) (in64_small (by decide) (by decide)))
  have H1 := Lib.hid h1
  clear hr h1
  refine (ops_fine _ (L := kl) (n := 3) rfl (by omega) H1.out HF.out).mono ?_
  rintro e w1 ⟨x, H, rfl, hH, ho, hb⟩
  have hlen : H.length = 2 := by
    have := congrArg List.length hH
    simpa using this
  obtain ⟨g, cx, rfl, _, _⟩ := own_form ho (by omega)
  have t0 : w1.cell? ⟨g, 7, none⟩ = some (.int .i64 2) := by
    have h1 := (ho.cellAt 7 (by omega)).trans (hcells_get H 0 7 (by omega) (by omega))
    have h2 := congrArg (fun l => l[0]?) hH
    simp only [List.getElem?_map, List.getElem?_eq_getElem (show 0 < H.length by omega), Option.map_some, List.getElem?_cons_zero, Option.some.injEq, Ho.plain, Prod.mk.injEq] at h2
    rw [h1]
    show some (Value.int .i64 H[0].tw) = _
    rw [h2.2.2]
  have t1 : w1.cell? ⟨g, 15, none⟩ = some (.int .i64 (-1)) := by
    have h1 := (ho.cellAt 15 (by omega)).trans (hcells_get H 1 7 (by omega) (by omega))
    have h2 := congrArg (fun l => l[1]?) hH
    simp only [List.getElem?_map, List.getElem?_eq_getElem (show 1 < H.length by omega), Option.map_some, List.getElem?_cons_succ, List.getElem?_cons_zero, Option.some.injEq, Ho.plain, Prod.mk.injEq] at h2
    rw [h1]
    show some (Value.int .i64 H[1].tw) = _
    rw [h2.2.2]
  rw [hlen]
  have B1 := Lib.hid (below_below ((Below.refl w.heap.size w).alloc (Nat.le_refl _) (.cells (kl.flatMap Ev.cells).toArray 65)) (by simp) hb)
  have T0 := Lib.hid t0
  have T1 := Lib.hid t1
  clear hH ho hb hlen t0 t1 H1
  go_wp2_with fail
  have h1 : RE (w1.alloc (.cells ([evk 2 0].flatMap Ev.cells).toArray 65)) (some ⟨w1.heap.size, 0, none⟩) [evk 2 0] := ⟨RC_newL w1 _ _, fun q hq => by
    obtain rfl := List.mem_singleton.1 hq
    exact evk_ok _ _ _ (in64_small (by decide) (by decide)) (in64_small (by decide) (by decide))⟩
  refine (ops_bad (L := [evk 2 0]) (n := 1) 0 rfl (by omega) h1 kl2_run).mono ?_
  rintro e w3 ⟨rfl, hb⟩
  have B2 := (below_below ((Below.refl w1.heap.size w1).alloc (Nat.le_refl _) (.cells ([evk 2 0].flatMap Ev.cells).toArray 65)) (by simp) hb)
  have t0 := cell_below B2 T0.out
  have t1 := cell_below B2 T1.out
  have B3 := Lib.hid (below_below B1.out B1.out.size B2)
  clear hb h1 B2
  go_wp2_with fail
  go_ret
  exact ⟨rfl, B3.out⟩

end Go.Proofs.Ytiefgnmekikckaa
