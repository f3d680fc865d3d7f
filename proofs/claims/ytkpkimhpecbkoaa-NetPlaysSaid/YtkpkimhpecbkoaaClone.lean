/-
  slices.Clone of bytes; stores into rows of one's own.
-/
import Derived.Test.YtkpkimhpecbkoaaMem
import Derived.BigRegion
import Derived.Laws.ResultCell
set_option linter.unusedVariables false
set_option linter.unusedSimpArgs false
namespace Go.Proofs.Ytkpkimhpecbkoaa
open Go.RowKit

set_option maxHeartbeats 1000000 in
/-- slices.Clone of bytes: a row of its own that reads the same. -/
theorem clone8_any (A : Option Addr) (n c : Nat) (l : List UInt8) (w : World) (hl : l.length = n) (hn : n ≤ 140737488355328) (hr : RB w A l) (hnil : A = none → c = 0) :
    Calls Try.prog 43 #[.slice A n c] w fun e w' => ∃ v, e = .returned v ∧ w'.ownsRow w.heap.size 5 1 v l.length (bv l) ∧ Below w.heap.size w w' := by
  subst hl
  rcases A with _ | ad
  · have h0 : l = [] := by
      rcases l with _ | ⟨x, l⟩
      · rfl
      · obtain ⟨ad, h, _⟩ := hr (by simp)
        cases h
    subst h0
    obtain rfl := hnil rfl
    clear hr hnil
    have he := fun w => Lib.run_eql_slice_nil (P := Try.prog) w 41 5 none 0 0 0 0 Try.underlying41
    go_enter Try.func43, Try.ntmps43
    go_wp2
    go_ret
    exact ⟨_, rfl, World.ownsRow_nil _ _ _ _, Below.refl _ _⟩
  · clear hnil
    have HR := Lib.hid hr
    clear hr
    have he := fun w => Lib.run_eql_slice_nil (P := Try.prog) w 41 5 (some ad) l.length c 0 0 Try.underlying41
    go_enter Try.func43, Try.ntmps43
    go_wp2_with (at_builtin; refine append_bytes rfl _ _ 41 rfl w.heap.size 5 Try.underlying41 info8 _ [] rfl (World.ownsRow_lit w #[] 0 (Nat.le_refl _) (by simp [maxLen]) rfl) _ _ _ l rfl rfl (HR.out.below ((Below.refl _ _).alloc (Nat.le_refl _) _)) ?c1 ?c2 ?_)
    case c1 => simp; omega
    case c2 => simp
    intro v w1 ho hg hat
    have HO := Lib.hid ho
    have HG := Lib.hid hg
    clear ho hg hat
    go_wp2
    go_ret
    exact ⟨_, rfl, by simpa using HO.out, ((Below.refl _ _).alloc (Nat.le_refl _) _).grown HG.out (by simp) (fun k hk => by simp [Value.ownBlock] at hk; omega)⟩

theorem un8_add (x : UInt8) (k : Int) : ∃ y : UInt8, (un8 x + k) % 256 = un8 y := by
  refine ⟨UInt8.ofNat ((un8 x + k) % 256).toNat, ?_⟩
  unfold un8
  simp
  omega
/-- A store of a byte into a row of one's own. -/
theorem own_store {w : World} {B n g c : Nat} {l : List UInt8} {e : TypeId} (h : w.ownsRow B e 1 (.slice (some ⟨g, 0, none⟩) n c) n (bv l)) (k : Nat) (y : UInt8) :
    (w.setCell ⟨g, k, none⟩ (.int .u8 (un8 y))).ownsRow B e 1 (.slice (some ⟨g, 0, none⟩) n c) n (bv (l.set k y)) := by
  have hst := (h.stored k (.int .u8 (un8 y))).1
  rwa [show (bv l).set k (.int .u8 (un8 y)) = bv (l.set k y) by simp [bv, List.map_set, B8]] at hst

theorem setCell_at {w : World} {p j : Nat} {cs : Array Value} {t : TypeId} {fr : Nat × Nat} (h : w.heap[p]? = some (.cells cs t fr)) (u : Value) : (w.setCell ⟨p, j, none⟩ u).heap[p]? = some (.cells (cs.setIfInBounds j u) t fr) := by
  simp [World.setCell, Array.getElem?_modify, h]
theorem own_setCell {w : World} {p j : Nat} {base n : Nat} {e : TypeId} {size : Nat} {v : Value} {xs : List Value} (h : w.ownsRow base e size v n xs) (hne : v.ownBlock ≠ some p) (u : Value) : (w.setCell ⟨p, j, none⟩ u).ownsRow base e size v n xs :=
  own_upd h ((Upd.refl (fun k => k = p) w).setCell (fun _ => rfl) u) (fun k hk e => hne (by rw [hk, e]))

end Go.Proofs.Ytkpkimhpecbkoaa
