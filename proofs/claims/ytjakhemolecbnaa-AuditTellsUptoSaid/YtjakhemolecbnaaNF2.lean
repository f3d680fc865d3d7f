/-
  The texts Verify of this proof in one (what is used of them): what each proves is said at its head. No conditions beyond those that each theorem says.
-/
import Derived.Test.YtjakhemolecbnaaNF

/-
  The walk of Verify.
-/
section
set_option linter.unusedVariables false
set_option linter.unusedSimpArgs false
namespace Go.Proofs.Ytjakhemolecbnaa
open Go.RowKit

def fltZ : Array Value := #[.int .i64 0, .int .i64 0, .int .i64 0]
def verZ : Array Value := #[.slice none 0 0, .int .i64 0, .int .i64 0, .int .i64 0]

/-- Whether a record breaks a rule. -/
def brk (cs : List Cm) (i : Nat) (c : Cm) (at' : Nat) (m : Rm) (k : Nat) : Bool := match k with
  | 0 => twiceS (c.recs.take at') m
  | 1 => bothS cs i m
  | 2 => bareS (c.recs.take at') m
  | _ => strangeS cs i c.group m
def ruleB (cs : List Cm) (i : Nat) (c : Cm) (at' : Nat) (m : Rm) (b : Int × Int × Int) (k : Nat) : Int × Int × Int := if brk cs i c at' m k = true then bestOf b (4 + (k : Int), (i : Int), (at' : Int)) else b
def recB (cs : List Cm) (i : Nat) (c : Cm) (b : Int × Int × Int) (at' : Nat) : Int × Int × Int := match c.recs[at']? with
  | some m => (List.range 4).foldl (ruleB cs i c at' m) b
  | none => b
def clB (cs : List Cm) (b : Int × Int × Int) (i : Nat) : Int × Int × Int := match cs[i]? with
  | some c => if c.lt = false then bestOf b (1, (i : Int), c.en) else if c.whole = false then bestOf b (2, (i : Int), c.en) else (List.range c.recs.length).foldl (recB cs i c) (prefixesB cs c i b)
  | none => b
/-- What Verify finds. -/
def verS (cs : List Cm) : Int × Int × Int := (List.range cs.length).foldl (clB cs) (0, 0, 0)
theorem infoFlt : (Try.prog.info? 33).map (·.size) = some 3 := by kernel_rfl
def rulesV (p : Nat) : Array Value := #[.func (.func 28) #[.pointer (some ⟨p, 0, none⟩)] #[], .func (.func 29) #[.pointer (some ⟨p, 0, none⟩)] #[], .func (.func 30) #[.pointer (some ⟨p, 0, none⟩)] #[], .func (.func 31) #[.pointer (some ⟨p, 0, none⟩)] #[]]

set_option maxRecDepth 100000 in
set_option maxHeartbeats 16000000 in
theorem verify_any (A : Option Addr) (n c : Nat) (L : List Cl) (w : World) (hl : L.length = n) (hn : n ≤ 1000) (hr : ClsAt w A L) :
    Calls Try.prog 10 #[.slice A n c] w fun e w' => ∃ cs : List Cm, cs.map Cm.p = L.map Cl.p ∧ e = .returned (.tuple #[.agg #[.int .i64 (verS cs).1, .int .i64 (verS cs).2.1, .int .i64 (verS cs).2.2], .bool ((verS cs).1 == 0)]) ∧ Below w.heap.size w w' := by
  subst hl
  have HR := Lib.hid hr
  have HN := Lib.hid hn
  clear hr
  have hb2 : Below w.heap.size w ((w.alloc (.cells fltZ 33)).alloc (.cells verZ 70)) := ((Below.refl _ _).alloc (Nat.le_refl _) _).alloc (by simp) _
  have hz2 : ((w.alloc (.cells fltZ 33)).alloc (.cells verZ 70)).heap[w.heap.size]? = some (.cells fltZ 33 (0, 0)) := (Below.heap_alloc _ _ _ (by simp)).trans (heap_alloc_new w _)
  have hp2 : VAt ((w.alloc (.cells fltZ 33)).alloc (.cells verZ 70)) (w.heap.size + 1) (.slice none 0 0) (0, 0, 0) := by
    have h := heap_alloc_new (w.alloc (.cells fltZ 33)) (.cells verZ 70)
    simpa [VAt, verZ] using h
  have hs2 : ((w.alloc (.cells fltZ 33)).alloc (.cells verZ 70)).heap.size = w.heap.size + 2 := by simp
  obtain ⟨w2, hw2⟩ : ∃ w2, w2 = ((w.alloc (.cells fltZ 33)).alloc (.cells verZ 70)) := ⟨_, rfl⟩
  rw [← hw2] at hb2 hz2 hp2 hs2
  obtain ⟨bz, hbz⟩ : ∃ bz, bz = w.heap.size := ⟨_, rfl⟩
  obtain ⟨p, hp⟩ : ∃ p, p = w.heap.size + 1 := ⟨_, rfl⟩
  rw [← hbz] at hz2
  rw [← hp] at hp2
  have HB2 := Lib.hid hb2
  have HZ2 := Lib.hid hz2
  have HP2 := Lib.hid hp2
  have HW2 := Lib.hid hw2
  have HS2 := Lib.hid hs2
  have HBZ := Lib.hid hbz
  have HP := Lib.hid hp
  clear hb2 hz2 hp2 hw2 hs2 hbz hp
  go_enter Try.func10, Try.ntmps10
  go_upto_region 2 with fail
  rw [show ((w.alloc (.cells #[.int .i64 0, .int .i64 0, .int .i64 0] 33)).alloc (.cells #[.slice none 0 0, .int .i64 0, .int .i64 0, .int .i64 0] 70)) = w2 from HW2.out.symm, ← HP.out, ← HBZ.out]
  obtain ⟨Bq, hBq⟩ : ∃ Bq, Bq = w2.heap.size := ⟨_, rfl⟩
  have HBQ2 := Lib.hid hBq
  have HPB := Lib.hid (show p < Bq by have := HP.out; have := HS2.out; omega)
  clear hBq
  go_wp2_with fail
  go_loopg [18] L.length (fun k s18 wr => ∃ (i : Nat) (cs : List Cm) (vl : Value), i ≤ L.length ∧ k = L.length - i ∧ s18 = .int .i64 (i : Int) ∧ cs.length = i ∧ VAt wr p vl (0, 0, 0) ∧ wr.ownsRow Bq 73 6 vl i (cmc cs) ∧ (∀ y ∈ cs, CFv wr p vl y) ∧ cs.map Cm.p = (L.take i).map Cl.p ∧ Upd (fun k => k = p) w2 wr)
  case atStart => exact ⟨0, [], _, Nat.zero_le _, by omega, rfl, rfl, HP2.out, World.ownsRow_nil _ _ _ _, (fun y hy => by cases hy), rfl, Upd.refl _ _⟩
  case round =>
    obtain ⟨i, cs, vl, hi, hk, rfl, hcs, hat, how, hcf, hmp, hu⟩ := hrel
    subst hcs
    obtain ⟨Av, cv, rfl, hcv⟩ := own_slice how
    have HK := Lib.hid hk
    have HAT := Lib.hid hat
    have HOW := Lib.hid how
    have HCF := Lib.hid hcf
    have HMP := Lib.hid hmp
    have HU := Lib.hid hu
    have HCV := Lib.hid hcv
    have HB := Lib.hid (show Below w.heap.size w wr from below_upd HB2.out HB2.out.size hu (fun k hk => by have := HP.out; omega))
    clear hk hat how hcf hmp hu hcv
    by_cases hlt : cs.length < L.length
    · obtain ⟨x, hx⟩ : ∃ x, L[cs.length]? = some x := ⟨_, List.getElem?_eq_getElem hlt⟩
      have HXM := Lib.hid (List.mem_of_getElem? hx)
      have HTK := Lib.hid (show (L.take (cs.length + 1)).map Cl.p = (L.take cs.length).map Cl.p ++ [x.p] by
        obtain ⟨h1, h2⟩ := List.getElem?_eq_some_iff.1 hx
        rw [List.take_succ_eq_append_getElem hlt, List.map_append, h2]
        rfl)
      obtain ⟨b1, o1, rfl, e1⟩ := (HR.out.r).part (by rw [clc_length]; omega)
      have q0 : wr.cell? ⟨b1, o1 + cs.length * 2, none⟩ = some (.int .i64 x.g) := cell_below HB.out (e1 _ _ ((clc_get L cs.length x hx 0 (by omega)).trans rfl))
      have q1 : wr.cell? ⟨b1, o1 + cs.length * 2 + 1, none⟩ = some (.slice x.A x.l.length x.c) := by
        rw [Nat.add_assoc]
        exact cell_below HB.out (e1 _ _ ((clc_get L cs.length x hx 1 (by omega)).trans rfl))
      have hi0 : (0 : Int) ≤ (cs.length : Int) := by omega
      have hi1 : (cs.length : Int) < (L.length : Int) := by omega
      have hb5 : Below wr.heap.size wr (wr.alloc (.cells #[.int .i64 x.g, .slice x.A x.l.length x.c] 27)) := (Below.refl _ _).alloc (Nat.le_refl _) _
      have hx5 := heap_alloc_new wr (.cells #[.int .i64 x.g, .slice x.A x.l.length x.c] 27)
      obtain ⟨w5, hw5⟩ : ∃ w5, w5 = wr.alloc (.cells #[.int .i64 x.g, .slice x.A x.l.length x.c] 27) := ⟨_, rfl⟩
      rw [← hw5] at hb5 hx5
      obtain ⟨g6, hg6⟩ : ∃ g6, g6 = wr.heap.size := ⟨_, rfl⟩
      obtain ⟨xg, hxg⟩ : ∃ xg, xg = x.g := ⟨_, rfl⟩
      obtain ⟨xA, hxA⟩ : ∃ xA, xA = x.A := ⟨_, rfl⟩
      obtain ⟨xc, hxc⟩ : ∃ xc, xc = x.c := ⟨_, rfl⟩
      have hg6l : g6 < w5.heap.size := by rw [hw5, hg6]; simp
      rw [← hg6] at hx5
      have HW5 := Lib.hid hw5
      have HG6 := Lib.hid hg6
      have HB5 := Lib.hid hb5
      have HX6 := Lib.hid (show ∀ W, Upd (FV p (.slice Av cs.length cv)) w5 W → W.cell? ⟨g6, 0, none⟩ = some (.int .i64 xg) ∧ W.cell? ⟨g6, 1, none⟩ = some (.slice xA x.l.length xc) from fun W hW => by
        have h := (hW.block g6 hg6l (by
          rintro (h | h)
          · have := (World.ownsRow.lt HOW.out _ h).2; omega
          · have := (Array.getElem?_eq_some_iff.1 HAT.out).1; omega)).trans hx5
        rw [hxg, hxA, hxc]
        exact ⟨(cell_of_row W g6 0 _ _ _ h).trans rfl, (cell_of_row W g6 1 _ _ _ h).trans rfl⟩)
      have HX := Lib.hid (show ∀ W, Upd (FV p (.slice Av cs.length cv)) w5 W → RB W xA x.l ∧ xg = x.g ∧ True ∧ (xA = none → xc = 0) ∧ x.l.length ≤ 17000000 from fun W hW => by
        have h := HR.out.b x HXM.out
        rw [hxg, hxA, hxc]
        have hBW : Below w.heap.size w W := (HB.out.alloc HB.out.size (.cells #[.int .i64 x.g, .slice x.A x.l.length x.c] 27) |> fun h1 => below_upd (by rw [← HW5.out] at h1; exact h1) (by have := HB5.out.size; have := HB.out.size; omega) hW (fun k hk => by
          rcases hk with hk | hk
          · have := (World.ownsRow.lt HOW.out _ hk).1; have := HBQ2.out; have := HS2.out; omega
          · have := HP.out; omega))
        exact ⟨h.1.below hBW, rfl, trivial, h.2.1, h.2.2⟩)
      have HI0 := Lib.hid (show VI w5 p Bq (.slice Av cs.length cv) cs (Array.replicate 12 false) w5.drew from ⟨(Upd.refl _ _).drew, fun _ => (HAT.out.below hb5).below ((Below.refl _ _).drew), fun _ => own_below (own_below HOW.out hb5) ((Below.refl _ _).drew)⟩)
      have HCFS := Lib.hid (show ∀ y ∈ cs, CFv w5 p (.slice Av cs.length cv) y from fun y hy => (HCF.out y hy).upd (Upd.of_below hb5))
      have HCL := Lib.hid (show cs.length ≤ 1000 by have := HN.out; omega)
      have HBQ := Lib.hid (show Bq ≤ w5.heap.size by have := HBQ2.out; have := HU.out.size; have := hb5.size; omega)
      have HLT := Lib.hid hlt
      clear hx e1 hb5 hx5 hw5 hg6 hxg hxA hxc hg6l hlt hi
      go_upto_region 5 with fail
      rw [show wr.alloc (.cells #[.int .i64 x.g, .slice x.A x.l.length x.c] 27) = w5 from HW5.out.symm, ← HG6.out]
      refine region_byM (VI w5 p Bq (.slice Av cs.length cv) cs) [(fun v _ => v = .pointer (some ⟨p, 0, none⟩)), (fun v _ => v = .pointer (some ⟨p, 0, none⟩)), (fun v _ => v = .pointer (some ⟨p, 0, none⟩)), (fun v _ => v = .pointer (some ⟨p, 0, none⟩)), fun v _ => v = .slice Av cs.length cv, (fun v _ => v = .agg #[.int .i64 xg, .slice xA x.l.length xc]), fun v W => V6 p (.slice Av cs.length cv) x v W, fun v W => V7 p (.slice Av cs.length cv) x v W, fun v W => V8 p Bq cs x v W, (fun v _ => v = .pointer (some ⟨p, 0, none⟩)), (fun v _ => v = .pointer (some ⟨p, 0, none⟩)), fun _ W => ∃ v, VAt W p v (0, 0, 0) ∧ V8 p Bq cs x v W] (by kernel_rfl) (by kernel_rfl) (by kernel_rfl) rfl (HI0.out) ?ok5 ?fin5
      case ok5 =>
        refine ⟨?_, ?_, ?_, ?_, ?_, ?_, ?_, ?_, ?_, ?_, ?_, ?_, trivial⟩
        · intro l a' w' K hI hcl hsz hn hd hq hK
          have e4 : a'.eval (.tmp 4) = .pointer (some ⟨p, 0, none⟩) := (hq 4 (by kernel_rfl)).trans rfl
          clear hd hq hcl hsz hn
          refine op_value (wanted_free _ _ (by rfl)) (v := .pointer (some ⟨p, 0, none⟩)) (w'' := w') ?_ (hK _ _ (hI.set _) (fun _ _ _ h => h) rfl)
          clear hK
          simp only [execOp, e4]
          have f4 : a'.tmps[4]?.getD undef = .pointer (some ⟨p, 0, none⟩) := (Array.getD_eq_getD_getElem? ..).symm.trans e4
          clear e4
          first | rfl | (go_simp <;> exact IntWalk.i64_in _ (by omega))
        · intro l a' w' K hI hcl hsz hn hd hq hK
          have e4 : a'.eval (.tmp 4) = .pointer (some ⟨p, 0, none⟩) := (hq 4 (by kernel_rfl)).trans rfl
          clear hd hq hcl hsz hn
          refine op_value (wanted_free _ _ (by rfl)) (v := .pointer (some ⟨p, 0, none⟩)) (w'' := w') ?_ (hK _ _ (hI.set _) (fun _ _ _ h => h) rfl)
          clear hK
          simp only [execOp, e4]
          have f4 : a'.tmps[4]?.getD undef = .pointer (some ⟨p, 0, none⟩) := (Array.getD_eq_getD_getElem? ..).symm.trans e4
          clear e4
          first | rfl | (go_simp <;> exact IntWalk.i64_in _ (by omega))
        · intro l a' w' K hI hcl hsz hn hd hq hK
          have e23 : a'.eval (.tmp 23) = .pointer (some ⟨p, 0, none⟩) := (hd 1 23 (by kernel_rfl))
          clear hd hq hcl hsz hn
          refine op_value (wanted_free _ _ (by rfl)) (v := .pointer (some ⟨p, 0, none⟩)) (w'' := w') ?_ (hK _ _ (hI.set _) (fun _ _ _ h => h) rfl)
          clear hK
          simp only [execOp, e23]
          have f23 : a'.tmps[23]?.getD undef = .pointer (some ⟨p, 0, none⟩) := (Array.getD_eq_getD_getElem? ..).symm.trans e23
          clear e23
          first | rfl | (go_simp <;> exact IntWalk.i64_in _ (by omega))
        · intro l a' w' K hI hcl hsz hn hd hq hK
          have e24 : a'.eval (.tmp 24) = .pointer (some ⟨p, 0, none⟩) := (hd 2 24 (by kernel_rfl))
          clear hd hq hcl hsz hn
          refine op_value (wanted_free _ _ (by rfl)) (v := .pointer (some ⟨p, 0, none⟩)) (w'' := w') ?_ (hK _ _ (hI.set _) (fun _ _ _ h => h) rfl)
          clear hK
          simp only [execOp, e24]
          have f24 : a'.tmps[24]?.getD undef = .pointer (some ⟨p, 0, none⟩) := (Array.getD_eq_getD_getElem? ..).symm.trans e24
          clear e24
          first | rfl | (go_simp <;> exact IntWalk.i64_in _ (by omega))
        · intro l a' w' K hI hcl hsz hn hd hq hK
          have e25 : a'.eval (.tmp 25) = .pointer (some ⟨p, 0, none⟩) := (hd 3 25 (by kernel_rfl))
          clear hd hq
          have h8 : l.getD 8 false = false := hcl 8 4 (by kernel_rfl) hn
          have h9 : l.getD 9 false = false := hcl 9 8 (by kernel_rfl) h8
          have h10 : l.getD 10 false = false := hcl 10 9 (by kernel_rfl) h9
          have h11 : l.getD 11 false = false := hcl 11 10 (by kernel_rfl) h10
          have cx := (hI.at_ h11).c0
          refine op_value (wanted_free _ _ (by rfl)) (v := .slice Av cs.length cv) (w'' := w') ?_ (hK _ _ (hI.set _) (fun _ _ _ h => h) rfl)
          clear hK
          simp only [execOp, e25]
          have f25 : a'.tmps[25]?.getD undef = .pointer (some ⟨p, 0, none⟩) := (Array.getD_eq_getD_getElem? ..).symm.trans e25
          clear e25 hI h8 h9 h10 h11
          go_simp
        · intro l a' w' K hI hcl hsz hn hd hq hK
          have e6 : a'.eval (.tmp 6) = .pointer (some ⟨g6, 0, none⟩) := (hq 6 (by kernel_rfl)).trans rfl
          clear hd hq hcl hsz hn
          have cx0 := (HX6.out w' hI.upd).1
          have cx1 := (HX6.out w' hI.upd).2
          refine op_value (wanted_free _ _ (by rfl)) (v := .agg #[.int .i64 xg, .slice xA x.l.length xc]) (w'' := w') ?_ (hK _ _ (hI.set _) (fun _ _ _ h => h) rfl)
          clear hK
          simp only [execOp, e6]
          have f6 : a'.tmps[6]?.getD undef = .pointer (some ⟨g6, 0, none⟩) := (Array.getD_eq_getD_getElem? ..).symm.trans e6
          clear e6
          first | rfl | (go_simp <;> exact IntWalk.i64_in _ (by omega))
        · intro l a' w' K hI hcl hsz hn hd hq hK
          have e27 : a'.eval (.tmp 27) = .agg #[.int .i64 xg, .slice xA x.l.length xc] := (hd 5 27 (by kernel_rfl))
          clear hd hq
          have h7 : l.getD 7 false = false := hcl 7 6 (by kernel_rfl) hn
          have h8 : l.getD 8 false = false := hcl 8 7 (by kernel_rfl) h7
          have h9 : l.getD 9 false = false := hcl 9 8 (by kernel_rfl) h8
          have h10 : l.getD 10 false = false := hcl 10 9 (by kernel_rfl) h9
          have h11 : l.getD 11 false = false := hcl 11 10 (by kernel_rfl) h10
          refine op_call #[.agg #[.int .i64 xg, .slice xA x.l.length xc]] (wanted_free _ _ (by rfl)) rfl Try.func27 (by kernel_rfl) rfl (by simp only [List.map_toArray, List.map_cons, List.map_nil, e27]) ?_
          obtain ⟨hx1, hx2, hx3, hx4, hx5⟩ := HX.out w' hI.upd
          refine (readc_any xg xA x.l.length xc x.l w' rfl hx5 hx1 hx4).mono ?_
          rintro e w6 ⟨C, rfl, hb6, hcl6, hcf6⟩
          have hlt : ∀ k, FV p (.slice Av cs.length cv) k → k < w'.heap.size := fun k hk => by
            rcases hk with hk | hk
            · exact (World.ownsRow.lt (hI.own h8) k hk).2
            · rw [hk]; exact (Array.getElem?_eq_some_iff.1 (hI.at_ h11)).1
          exact ⟨_, rfl, hK _ _ ((hI.grow hb6).set _) (fun j u => by match j with | 0 => exact fun _ h => h | 1 => exact fun _ h => h | 2 => exact fun _ h => h | 3 => exact fun _ h => h | 4 => exact fun _ h => h | 5 => exact fun _ h => h | 6 => exact fun hl _ => absurd hl (by rw [hn]; decide) | 7 => exact fun hl _ => absurd hl (by rw [h7]; decide) | 8 => exact fun hl _ => absurd hl (by rw [h8]; decide) | 9 => exact fun _ h => h | 10 => exact fun _ h => h | 11 => exact fun hl _ => absurd hl (by rw [h11]; decide) | _ + 12 => exact fun _ _ => trivial) ⟨C, rfl, by rw [clS_p hcl6]; show claimP _ _ = claimP _ _; rw [hx2], fun k hk => hcf6 k (hlt k hk)⟩⟩
        · intro l a' w' K hI hcl hsz hn hd hq hK
          have e28 := hd 6 28 (by kernel_rfl)
          clear hd hq
          obtain ⟨C, e28, hcp, hcv⟩ := (show V6 p (.slice Av cs.length cv) x (a'.eval (.tmp 28)) w' from e28)
          have h8 : l.getD 8 false = false := hcl 8 7 (by kernel_rfl) hn
          have h9 : l.getD 9 false = false := hcl 9 8 (by kernel_rfl) h8
          have h10 : l.getD 10 false = false := hcl 10 9 (by kernel_rfl) h9
          have h11 : l.getD 11 false = false := hcl 11 10 (by kernel_rfl) h10
          have hb7 : Below w'.heap.size w' (w'.alloc (.cells C.cells.toArray 73)) := (Below.refl _ _).alloc (Nat.le_refl _) _
          have hlt : ∀ k, FV p (.slice Av cs.length cv) k → k < w'.heap.size := fun k hk => by
            rcases hk with hk | hk
            · exact (World.ownsRow.lt (hI.own h8) k hk).2
            · rw [hk]; exact (Array.getElem?_eq_some_iff.1 (hI.at_ h11)).1
          refine op_buildSlice (wanted_free _ _ (by rfl)) 68 73 1 _ rfl Try.underlying68 C.cells.toArray (by simp only [List.map_toArray, List.map_cons, List.map_nil, e28]; exact builtCl C) ?_
          refine hK _ _ ((hI.grow hb7).set _) (fun j u => by match j with | 0 => exact fun _ h => h | 1 => exact fun _ h => h | 2 => exact fun _ h => h | 3 => exact fun _ h => h | 4 => exact fun _ h => h | 5 => exact fun _ h => h | 6 => exact fun _ h => h.upd (Upd.of_below hb7) | 7 => exact fun hl _ => absurd hl (by rw [hn]; decide) | 8 => exact fun hl _ => absurd hl (by rw [h8]; decide) | 9 => exact fun _ h => h | 10 => exact fun _ h => h | 11 => exact fun hl _ => absurd hl (by rw [h11]; decide) | _ + 12 => exact fun _ _ => trivial) ⟨C, w'.heap.size, rfl, RC_newL w' C.cells _, hcp, hcv.upd (Upd.of_below hb7), fun h => Nat.lt_irrefl _ (hlt _ h)⟩
        · intro l a' w' K hI hcl hsz hn hd hq hK
          have e26 : a'.eval (.tmp 26) = .slice Av cs.length cv := (hd 4 26 (by kernel_rfl))
          have e29 := hd 7 29 (by kernel_rfl)
          clear hd hq
          obtain ⟨C, gN, e29, hrc, hcp, hcv, hng⟩ := (show V7 p (.slice Av cs.length cv) x (a'.eval (.tmp 29)) w' from e29)
          have h9 : l.getD 9 false = false := hcl 9 8 (by kernel_rfl) hn
          have h10 : l.getD 10 false = false := hcl 10 9 (by kernel_rfl) h9
          have h11 : l.getD 11 false = false := hcl 11 10 (by kernel_rfl) h10
          refine step_append_any rfl (.tmp 26) (.tmp 29) 68 rfl Bq 73 (.agg clZ) 6 80 Try.underlying68 infoClA (by kernel_rfl) (by omega) (by omega) (.slice Av cs.length cv) cs.length (cmc cs) e26 (hI.own hn) (some ⟨gN, 0, none⟩) 1 1 C.cells e29 rfl hrc (by intro u hu; simp only [Cm.cells, List.mem_cons, List.not_mem_nil, or_false] at hu; rcases hu with rfl | rfl | rfl | rfl | rfl | rfl <;> rfl) (by have := HCL.out; omega) (Nat.le_trans HBQ.out hI.upd.size) ?_
          intro v9 w9 ho9 hg9 hat9
          have hu9 : Upd (fun k => (Value.slice Av cs.length cv).ownBlock = some k) w' w9 := (Upd.refl _ w').grown hg9 (fun k hk _ => hk)
          have hu9' : Upd (FV p (.slice Av cs.length cv)) w' w9 := hu9.mono (fun k _ hk => .inl hk)
          have hbase : ∀ k, (Value.slice Av cs.length cv).ownBlock = some k → Bq ≤ k := fun k hk => ((hI.own hn).lt k hk).1
          have hI2 : VI w5 p Bq (.slice Av cs.length cv) cs (l.setIfInBounds 8 true) w9 := ⟨hI.upd.trans hu9' (fun _ _ h => h), fun h => by
            have h2 := hI.at_ (unset h)
            exact (hu9.block p (Array.getElem?_eq_some_iff.1 h2).1 (fun e => by have := hbase _ e; have := HPB.out; omega)).trans h2, fun h => by
            exfalso
            rw [setTrue (by rw [hsz]; exact of_decide_eq_true (by kernel_rfl))] at h
            cases h⟩
          have hall : ∀ y ∈ cs ++ [C], CFv w' p (.slice Av cs.length cv) y := fun y hy => by
            rcases List.mem_append.1 hy with h | h
            · exact (HCFS.out y h).upd hI.upd
            · rw [List.mem_singleton.1 h]
              exact hcv
          have hres : V8 p Bq cs x v9 w9 := by
            obtain ⟨A9, c9, rfl, hc9⟩ := own_slice ho9
            refine ⟨C, A9, c9, rfl, hc9, by rw [cmc_append]; simpa [cmc] using ho9, hcp, fun y hy k hk => ?_⟩
            rcases hk with hk | hk
            · rcases hat9 with h | h
              · exact (hall y hy).upd hu9' k (.inl (h.symm.trans hk))
              · rw [h] at hk
                have hk2 := Option.some.inj hk
                exact ((hall y hy p (.inr rfl)).fresh (Nat.le_of_eq hk2)).upd (hall y hy) hu9'
            · rw [hk]; exact (hall y hy).upd hu9' p (.inr rfl)
          exact hK _ _ hI2 (fun j u => by match j with | 0 => exact fun _ h => h | 1 => exact fun _ h => h | 2 => exact fun _ h => h | 3 => exact fun _ h => h | 4 => exact fun _ h => h | 5 => exact fun _ h => h | 6 => exact fun _ h => h.upd hu9' | 7 => exact fun _ h => h.upd hu9' | 8 => exact fun hl _ => absurd hl (by rw [hn]; decide) | 9 => exact fun _ h => h | 10 => exact fun _ h => h | 11 => exact fun hl _ => absurd hl (by rw [h11]; decide) | _ + 12 => exact fun _ _ => trivial) hres
        · intro l a' w' K hI hcl hsz hn hd hq hK
          have e22 : a'.eval (.tmp 22) = .pointer (some ⟨p, 0, none⟩) := (hd 0 22 (by kernel_rfl))
          clear hd hq hcl hsz hn
          refine op_value (wanted_free _ _ (by rfl)) (v := .pointer (some ⟨p, 0, none⟩)) (w'' := w') ?_ (hK _ _ (hI.set _) (fun _ _ _ h => h) rfl)
          clear hK
          simp only [execOp, e22]
          have f22 : a'.tmps[22]?.getD undef = .pointer (some ⟨p, 0, none⟩) := (Array.getD_eq_getD_getElem? ..).symm.trans e22
          clear e22
          first | rfl | (go_simp <;> exact IntWalk.i64_in _ (by omega))
        · intro l a' w' K hI hcl hsz hn hd hq hK
          have e31 : a'.eval (.tmp 31) = .pointer (some ⟨p, 0, none⟩) := (hd 9 31 (by kernel_rfl))
          clear hd hq hcl hsz hn
          refine op_value (wanted_free _ _ (by rfl)) (v := .pointer (some ⟨p, 0, none⟩)) (w'' := w') ?_ (hK _ _ (hI.set _) (fun _ _ _ h => h) rfl)
          clear hK
          simp only [execOp, e31]
          have f31 : a'.tmps[31]?.getD undef = .pointer (some ⟨p, 0, none⟩) := (Array.getD_eq_getD_getElem? ..).symm.trans e31
          clear e31
          first | rfl | (go_simp <;> exact IntWalk.i64_in _ (by omega))
        · intro l a' w' K hI hcl hsz hn hd hq hK
          have e32 : a'.eval (.tmp 32) = .pointer (some ⟨p, 0, none⟩) := (hd 10 32 (by kernel_rfl))
          have e30 := hd 8 30 (by kernel_rfl)
          clear hd hq
          have e30' := (show V8 p Bq cs x (a'.eval (.tmp 30)) w' from e30)
          have e31 := e30'
          obtain ⟨C, A9, c9, h30, _, _, _, _⟩ := e30'
          rw [h30] at e31
          have ha := hI.at_ hn
          have hf0 := frozen_of_row w' p 0 _ _ ha
          have hc0 := ha.c0
          have hu11 : Upd (fun k => k = p) w' (w'.setCell ⟨p, 0, none⟩ (.slice A9 (cs.length + 1) c9)) := (Upd.refl (fun k => k = p) w').setCell (p := ⟨p, 0, none⟩) (fun _ => rfl) _
          have hu11' : Upd (FV p (.slice Av cs.length cv)) w' (w'.setCell ⟨p, 0, none⟩ (.slice A9 (cs.length + 1) c9)) := hu11.mono (fun k _ hk => .inr hk)
          have ha2 : VAt (w'.setCell ⟨p, 0, none⟩ (.slice A9 (cs.length + 1) c9)) p (.slice A9 (cs.length + 1) c9) (0, 0, 0) := by
            unfold VAt
            rw [setCell_at ha _]
            rfl
          have hv8 : V8 p Bq cs x (.slice A9 (cs.length + 1) c9) (w'.setCell ⟨p, 0, none⟩ (.slice A9 (cs.length + 1) c9)) := V8.upd e31 hu11 HPB.out
          refine op_skip (wanted_free _ _ (by rfl)) rfl (w'' := w'.setCell ⟨p, 0, none⟩ (.slice A9 (cs.length + 1) c9)) ?_ (hK undef _ ⟨hI.upd.trans hu11' (fun _ _ h => h), (fun h => absurd (h.symm.trans (setTrue (by rw [hsz]; exact of_decide_eq_true (by kernel_rfl)))) (by decide)), fun h => own_upd (hI.own (unset h)) hu11 (fun k hk e => by have := ((hI.own (unset h)).lt k hk).1; have := HPB.out; omega)⟩ (fun j u => by match j with | 0 => exact fun _ h => h | 1 => exact fun _ h => h | 2 => exact fun _ h => h | 3 => exact fun _ h => h | 4 => exact fun _ h => h | 5 => exact fun _ h => h | 6 => exact fun _ h => h.upd hu11' | 7 => exact fun _ h => h.upd hu11' | 8 => exact fun _ h => h.upd hu11 HPB.out | 9 => exact fun _ h => h | 10 => exact fun _ h => h | 11 => exact fun hl _ => absurd hl (by rw [hn]; decide) | _ + 12 => exact fun _ _ => trivial) ⟨_, ha2, hv8⟩)
          clear hK
          simp only [execOp, e32]
          have f32 : a'.tmps[32]?.getD undef = .pointer (some ⟨p, 0, none⟩) := (Array.getD_eq_getD_getElem? ..).symm.trans e32
          have f30 : a'.tmps[30]?.getD undef = .slice A9 (cs.length + 1) c9 := (Array.getD_eq_getD_getElem? ..).symm.trans h30
          clear e32 e30 e31 hI hu11 hu11' ha2 hv8 ha h30
          go_simp
      case fin5 =>
        rintro l w' hsz hall hI _ rfl _ rfl _ rfl _ rfl _ rfl _ rfl _ _ _ _ _ _ _ rfl _ rfl _ hfin
        simp only [Act.put, List.setIfInBounds_toArray, List.set_cons_zero, List.set_cons_succ, FinGoal]
        obtain ⟨v, hva, C, A9, c9, rfl, hc9, ho9, hcp, hcf9⟩ := hfin
        have HVA := Lib.hid hva
        have HO9 := Lib.hid ho9
        have HCP := Lib.hid hcp
        have HCF9 := Lib.hid hcf9
        have HIU := Lib.hid hI.upd
        clear hva ho9 hcp hcf9 hI hc9
        go_wp2_with fail
        go_roundg (L.length - (cs.length + 1))
        case measure => have := HK.out; have := HLT.out; omega
        case rel =>
          refine ⟨cs.length + 1, cs ++ [C], .slice A9 (cs.length + 1) c9, HLT.out, rfl, (by first | rfl | (have := HCL.out; rw [wrap64_small (by omega) (by omega)]; rfl)), by simp, HVA.out, HO9.out, HCF9.out, ?_, ?_⟩
          · rw [List.map_append, HMP.out, HTK.out]
            simp [HCP.out]
          · exact (HU.out.below HB5.out).trans HIU.out (fun k hk e => by
              rcases e with e | e
              · have := (World.ownsRow.lt HOW.out _ e).1; have := HBQ2.out; omega
              · exact e)
    · have hle : cs.length = L.length := by omega
      have HMQ := Lib.hid (show cs.map Cm.p = L.map Cl.p by rw [HMP.out, hle, List.take_length])
      have HVF := Lib.hid (show VF wr p Av cv cs (0, 0, 0) from ⟨HAT.out, RCo.of_own HOW.out HPB.out, fun y hy => HCF.out y hy p (.inr rfl), by have := HN.out; omega⟩)
      have HCL := Lib.hid (show cs.length ≤ 1000 by have := HN.out; omega)
      have hnl : ¬ ((cs.length : Int) < (L.length : Int)) := by omega
      have HZR := Lib.hid (show wr.heap[bz]? = some (.cells fltZ 33 (0, 0)) from (HU.out.block bz (by have := HS2.out; have := HBZ.out; omega) (by have := HP.out; have := HBZ.out; omega)).trans HZ2.out)
      clear hle hlt hi HMP HAT HOW HCF HK HU
      have hmf : ∀ (fn : Fn) (first cap : Array Value) (w : World), (Instr.makeFunc fn first cap).run Try.prog w = .ok (.func fn first cap) w := fun _ _ _ _ => rfl
      have hb7 : Below wr.heap.size wr (wr.alloc (.cells (rulesV p) 75)) := (Below.refl _ _).alloc (Nat.le_refl _) _
      have hx7 := heap_alloc_new wr (.cells (rulesV p) 75)
      obtain ⟨w7, hw7⟩ : ∃ w7, w7 = wr.alloc (.cells (rulesV p) 75) := ⟨_, rfl⟩
      rw [← hw7] at hb7 hx7
      obtain ⟨gq, hgq⟩ : ∃ gq, gq = wr.heap.size := ⟨_, rfl⟩
      rw [← hgq] at hx7
      have hgl : gq < w7.heap.size := by rw [hw7, hgq]; simp
      have HGQ := Lib.hid hgq
      have HW7 := Lib.hid hw7
      have HX7 := Lib.hid hx7
      have HV7 := Lib.hid (HVF.out.below hb7)
      have HB7 := Lib.hid (below_below HB.out HB.out.size hb7)
      have HZ7 := Lib.hid ((hb7.block bz (by have := (Array.getElem?_eq_some_iff.1 HZR.out).1; exact this)).trans HZR.out)
      have HGL := Lib.hid hgl
      have HGP := Lib.hid (show ¬ gq = p by have := HVF.out.lt; omega)
      have HBP := Lib.hid (show ¬ bz = p by have := HP.out; have := HBZ.out; omega)
      clear hb7 hx7 hw7 hgq hgl
      go_upto_region 8 with fail
      rw [show wr.alloc (.cells #[.func (.func 28) #[.pointer (some ⟨p, 0, none⟩)] #[], .func (.func 29) #[.pointer (some ⟨p, 0, none⟩)] #[], .func (.func 30) #[.pointer (some ⟨p, 0, none⟩)] #[], .func (.func 31) #[.pointer (some ⟨p, 0, none⟩)] #[]] 75) = w7 from HW7.out.symm, ← HGQ.out]
      have HRU := Lib.hid (show ∀ W, Upd (fun k => k = p) w7 W → W.heap[gq]? = some (.cells (rulesV p) 75 (0, 0)) from fun W hW => (hW.block gq HGL.out HGP.out).trans HX7.out)
      clear hmf
      have k0 := HV7.out.c0
      go_wp2_with fail
      clear k0
      go_loopg [48] cs.length (fun k s48 wx => ∃ i : Nat, i ≤ cs.length ∧ k = cs.length - i ∧ s48 = .int .i64 (i : Int) ∧ VF wx p Av cv cs ((List.range i).foldl (clB cs) (0, 0, 0)) ∧ Upd (fun k => k = p) w7 wx)
      case atStart => exact ⟨0, Nat.zero_le _, by omega, rfl, HV7.out, Upd.refl _ _⟩
      case round =>
        obtain ⟨i, hi, hk, rfl, hvf, hu⟩ := hrel
        have HK := Lib.hid hk
        have HVX := Lib.hid hvf
        have HUX := Lib.hid hu
        clear hk hvf hu
        by_cases hlt : i < cs.length
        · obtain ⟨cc, hcc⟩ : ∃ cc, cs[i]? = some cc := ⟨_, List.getElem?_eq_getElem hlt⟩
          obtain ⟨bv, ov, rfl, hp⟩ := HVX.out.part hcc
          obtain ⟨q0, q1, q2, q3, q4, q5⟩ := hp wr (Below.refl _ _)
          have HCC := Lib.hid hcc
          have i0 : (0 : Int) ≤ (i : Int) := by omega
          have i1 : (i : Int) < (cs.length : Int) := by omega
          have hln1 : (cs.length : Int) ≤ 1000 := by have := HCL.out; omega
          have hb8 : Below wr.heap.size wr (wr.alloc (.cells cc.cells.toArray 73)) := (Below.refl _ _).alloc (Nat.le_refl _) _
          have hx8 := heap_alloc_new wr (.cells cc.cells.toArray 73)
          obtain ⟨w8, hw8⟩ : ∃ w8, w8 = wr.alloc (.cells cc.cells.toArray 73) := ⟨_, rfl⟩
          rw [← hw8] at hb8 hx8
          obtain ⟨g9, hg9⟩ : ∃ g9, g9 = wr.heap.size := ⟨_, rfl⟩
          rw [← hg9] at hx8
          have hg9p : ¬ g9 = p := by have := HVX.out.lt; omega
          have hg9l : g9 < w8.heap.size := by rw [hw8, hg9]; simp
          obtain ⟨B, hB⟩ : ∃ B, B = (List.range i).foldl (clB cs) (0, 0, 0) := ⟨_, rfl⟩
          rw [← hB] at HVX
          have hBs : (List.range (i + 1)).foldl (clB cs) (0, 0, 0) = clB cs B i := by rw [hB, foldl_range_snoc]
          have HV8 := Lib.hid (HVX.out.below hb8)
          have HW8 := Lib.hid hw8
          have HG9 := Lib.hid hg9
          have HLT := Lib.hid hlt
          have HUW := Lib.hid (HUX.out.below hb8)
          have HCB := Lib.hid (show clB cs B i = if cc.lt = false then bestOf B (1, (i : Int), cc.en) else if cc.whole = false then bestOf B (2, (i : Int), cc.en) else (List.range cc.recs.length).foldl (recB cs i cc) (prefixesB cs cc i B) by unfold clB; rw [hcc])
          have HD := Lib.hid (show ∀ W, Upd (fun k => k = p) w8 W → W.cell? ⟨g9, 2, none⟩ = some (.bool cc.lt) ∧ W.cell? ⟨g9, 3, none⟩ = some (.slice cc.rA cc.recs.length cc.rc) ∧ W.cell? ⟨g9, 4, none⟩ = some (.bool cc.whole) ∧ W.cell? ⟨g9, 5, none⟩ = some (.int .i64 cc.en) from fun W hW => by
            have h := (hW.block g9 hg9l hg9p).trans hx8
            exact ⟨(cell_of_row W g9 2 _ _ _ h).trans rfl, (cell_of_row W g9 3 _ _ _ h).trans rfl, (cell_of_row W g9 4 _ _ _ h).trans rfl, (cell_of_row W g9 5 _ _ _ h).trans rfl⟩)
          have HRR := Lib.hid (show ∀ W, VF W p (some ⟨bv, ov, none⟩) cv cs (clB cs B i) → Upd (fun k => k = p) w8 W → ∃ i', i' ≤ cs.length ∧ cs.length - (i + 1) = cs.length - i' ∧ (Value.int .i64 ((i + 1 : Nat) : Int)) = .int .i64 (i' : Int) ∧ VF W p (some ⟨bv, ov, none⟩) cv cs ((List.range i').foldl (clB cs) (0, 0, 0)) ∧ Upd (fun k => k = p) w7 W from fun W h1 h2 => ⟨i + 1, HLT.out, rfl, rfl, by rw [hBs]; exact h1, HUW.out.trans h2 (fun _ _ h => h)⟩)
          obtain ⟨D2, D3, D4, D5⟩ := HD.out w8 (Upd.refl _ _)
          clear hcc hp hb8 hx8 hw8 hg9 hg9p hg9l hB hBs hi hlt HVX HUX
          go_upto_region 22 with fail
          rw [show wr.alloc (.cells #[.int .i64 cc.group, .slice cc.lA cc.M.length cc.lc, .bool cc.lt, .slice cc.rA cc.recs.length cc.rc, .bool cc.whole, .int .i64 cc.en] 73) = w8 from HW8.out.symm, ← HG9.out]
          clear q0 q1 q2 q3 q4 q5
          by_cases hlt1 : cc.lt = false
          · have HCB1 := Lib.hid (HCB.out.trans (if_pos hlt1))
            rw [hlt1] at D2
            clear hlt1
            go_wp2_with fail
            refine (found_any p _ B 1 (i : Int) cc.en w8 HV8.out.at_).mono ?_
            rintro e w9 ⟨rfl, hv9, hu9⟩
            have HV9 := Lib.hid (HV8.out.turn hu9 hv9)
            have HU9 := Lib.hid hu9
            clear hv9 hu9 D2 D3 D4 D5
            go_wp2_with fail
            go_roundg (cs.length - (i + 1))
            case measure => have := HK.out; have := HLT.out; omega
            case rel =>
              obtain ⟨i', h1, h2, h3, h4, h5⟩ := HRR.out _ (by rw [HCB1.out]; exact HV9.out) HU9.out
              exact ⟨i', h1, h2, Eq.trans (by go_num) h3, h4, h5⟩
          by_cases hwh : cc.whole = false
          · have HCB1 := Lib.hid (HCB.out.trans ((if_neg hlt1).trans (if_pos hwh)))
            have hlt2 : cc.lt = true := by simpa using hlt1
            rw [hlt2] at D2
            rw [hwh] at D4
            clear hlt1 hwh hlt2
            go_wp2_with fail
            refine (found_any p _ B 2 (i : Int) cc.en w8 HV8.out.at_).mono ?_
            rintro e w9 ⟨rfl, hv9, hu9⟩
            have HV9 := Lib.hid (HV8.out.turn hu9 hv9)
            have HU9 := Lib.hid hu9
            clear hv9 hu9 D2 D3 D4 D5
            go_wp2_with fail
            go_roundg (cs.length - (i + 1))
            case measure => have := HK.out; have := HLT.out; omega
            case rel =>
              obtain ⟨i', h1, h2, h3, h4, h5⟩ := HRR.out _ (by rw [HCB1.out]; exact HV9.out) HU9.out
              exact ⟨i', h1, h2, Eq.trans (by go_num) h3, h4, h5⟩
          have HCB1 := Lib.hid (HCB.out.trans ((if_neg hlt1).trans (if_neg hwh)))
          have hlt2 : cc.lt = true := by simpa using hlt1
          have hwh2 : cc.whole = true := by simpa using hwh
          rw [hlt2] at D2
          rw [hwh2] at D4
          clear hlt1 hwh hlt2 hwh2
          go_wp2_with fail
          refine (prefixes_any p _ cv cs B i cc w8 HV8.out HCC.out HCV.out).mono ?_
          obtain ⟨B0, hB0⟩ : ∃ B0, prefixesB cs cc i B = B0 := ⟨_, rfl⟩
          rw [hB0] at HCB1 ⊢
          rintro e w9 ⟨rfl, hv9, hu9⟩
          have HV9 := Lib.hid hv9
          have HU9 := Lib.hid hu9
          clear D2 D3 D4 D5 hB0
          obtain ⟨D2, D3, D4, D5⟩ := HD.out w9 hu9
          clear hv9 hu9 D2 D4 D5
          have hrl : cc.recs.length ≤ 5000 := (HV9.out.cf cc (List.mem_of_getElem? HCC.out)).lR
          go_wp2_with fail
          clear D3
          go_loopg [59] cc.recs.length (fun k s59 wx => ∃ at' : Nat, at' ≤ cc.recs.length ∧ k = cc.recs.length - at' ∧ s59 = .int .i64 (at' : Int) ∧ VF wx p (some ⟨bv, ov, none⟩) cv cs ((List.range at').foldl (recB cs i cc) B0) ∧ Upd (fun k => k = p) w8 wx)
          case atStart => exact ⟨0, Nat.zero_le _, by omega, rfl, HV9.out, HU9.out⟩
          case round =>
            obtain ⟨at', hi3, hk3, rfl, hvf3, hu3⟩ := hrel
            have HK3 := Lib.hid hk3
            have HV3 := Lib.hid hvf3
            have HU3 := Lib.hid hu3
            clear hk3 hvf3 hu3
            by_cases hlt3 : at' < cc.recs.length
            · obtain ⟨m, hm⟩ : ∃ m, cc.recs[at']? = some m := ⟨_, List.getElem?_eq_getElem hlt3⟩
              have hcf := HV3.out.cf cc (List.mem_of_getElem? HCC.out)
              obtain ⟨br, orr, hbr, hcell⟩ := RC.part hcf.rr.r (by rw [rmc_length]; omega)
              have hg := rmc_get cc.recs at' hlt3
              have hme : cc.recs[at'] = m := by
                have := List.getElem?_eq_getElem hlt3
                rw [hm] at this
                exact (Option.some.inj this).symm
              rw [hme] at hg
              have z0 := hcell _ _ hg.1
              have z1 := hcell _ _ hg.2.1
              have z2 := hcell _ _ hg.2.2.1
              have z3 := hcell _ _ hg.2.2.2
              rw [← Nat.add_assoc] at z1 z2 z3
              have HMM := Lib.hid (List.mem_of_getElem? hm)
              have HRB := Lib.hid (show ∀ b, recB cs i cc b at' = (List.range 4).foldl (ruleB cs i cc at' m) b from fun b => by unfold recB; rw [hm])
              have a0 : (0 : Int) ≤ (at' : Int) := by omega
              have a1 : (at' : Int) < (cc.recs.length : Int) := by omega
              have hb10 : Below wr.heap.size wr (wr.alloc (.cells m.cells.toArray 24)) := (Below.refl _ _).alloc (Nat.le_refl _) _
              have hx10 := box_new wr m
              obtain ⟨w10, hw10⟩ : ∃ w10, w10 = wr.alloc (.cells m.cells.toArray 24) := ⟨_, rfl⟩
              rw [← hw10] at hb10 hx10
              obtain ⟨g11, hg11⟩ : ∃ g11, g11 = wr.heap.size := ⟨_, rfl⟩
              rw [← hg11] at hx10
              obtain ⟨B3, hB3⟩ : ∃ B3, B3 = (List.range at').foldl (recB cs i cc) B0 := ⟨_, rfl⟩
              rw [← hB3] at HV3
              have HB3S := Lib.hid (show (List.range (at' + 1)).foldl (recB cs i cc) B0 = recB cs i cc B3 at' by rw [hB3, foldl_range_snoc])
              have hg11p : ¬ g11 = p := by have := HV3.out.lt; omega
              have hg11l : g11 < w10.heap.size := by rw [hw10, hg11]; simp
              have HBX := Lib.hid (show ∀ W, Upd (fun k => k = p) w10 W → W.cell? ⟨g11, 0, none⟩ = some (.int .i64 m.kind) ∧ W.cell? ⟨g11, 1, none⟩ = some (.string (strB m.tx)) ∧ W.cell? ⟨g11, 2, none⟩ = some (.slice m.A m.groups.length m.c) ∧ W.cell? ⟨g11, 3, none⟩ = some (.string (strB m.body)) from fun W hW => by
                have h : BoxAt W g11 m := (hW.block g11 hg11l hg11p).trans hx10
                exact ⟨h.c0, h.c1, h.c2, (cell_of_row W g11 3 _ _ _ h).trans rfl⟩)
              have HV10 := Lib.hid (HV3.out.below hb10)
              have HW10 := Lib.hid hw10
              have HG11 := Lib.hid hg11
              have HU10 := Lib.hid (HU3.out.below hb10)
              have HLT3 := Lib.hid hlt3
              have hrA : cc.rA = some ⟨br, orr, none⟩ := hbr
              have hu710 := Lib.hid (HUW.out.trans HU10.out (fun _ _ h => h))
              clear hm hcf hbr hcell hg hme hb10 hx10 hw10 hg11 hB3 hg11p hg11l hi3 hlt3
              go_upto_region 15 with (fail)
              rw [show wr.alloc (.cells #[.int .i64 m.kind, .string (strB m.tx), .slice m.A m.groups.length m.c, .string (strB m.body)] 24) = w10 from HW10.out.symm, ← HG11.out]
              clear z0 z1 z2 z3
              have HRA := Lib.hid hrA
              clear hrA
              go_wp2_with fail
              go_loopg [66] 4 (fun k s66 wx => ∃ k4 : Nat, k4 ≤ 4 ∧ k = 4 - k4 ∧ s66 = .int .i64 (k4 : Int) ∧ VF wx p (some ⟨bv, ov, none⟩) cv cs ((List.range k4).foldl (ruleB cs i cc at' m) B3) ∧ Upd (fun k => k = p) w10 wx)
              case atStart => exact ⟨0, Nat.zero_le _, by omega, rfl, HV10.out, Upd.refl _ _⟩
              case round =>
                obtain ⟨k4, hi4, hk4, rfl, hvf4, hu4⟩ := hrel
                obtain ⟨B4, hB4⟩ : ∃ B4, (List.range k4).foldl (ruleB cs i cc at' m) B3 = B4 := ⟨_, rfl⟩
                rw [hB4] at hvf4
                have HK4 := Lib.hid hk4
                have HB4 := Lib.hid hB4
                have HV4 := Lib.hid hvf4
                have HU4 := Lib.hid hu4
                have HQ4 := Lib.hid (HRU.out wr (hu710.out.trans hu4 (fun _ _ h => h)))
                obtain ⟨z0, z1, z2, z3⟩ := HBX.out wr hu4
                clear hk4 hvf4 hu4 hB4
                by_cases hlt4 : k4 < 4
                · obtain rfl | rfl | rfl | rfl : k4 = 0 ∨ k4 = 1 ∨ k4 = 2 ∨ k4 = 3 := by omega
                  · have kq : wr.cell? ⟨gq, 0, none⟩ = some (.func (.func 28) #[.pointer (some ⟨p, 0, none⟩)] #[]) := (cell_of_row wr gq 0 _ _ _ HQ4.out).trans rfl
                    go_wp2_with fail
                    refine (twice_any p _ cv cs B4 i at' cc m wr HV4.out HCC.out (Nat.le_of_lt HLT3.out)).mono ?_
                    obtain ⟨q, hq⟩ : ∃ q, twiceS (cc.recs.take at') m = q := ⟨_, rfl⟩
                    rw [hq]
                    rintro e w12 ⟨rfl, hb12⟩
                    have HQQ := Lib.hid (show ruleB cs i cc at' m B4 0 = if q = true then bestOf B4 (4, (i : Int), (at' : Int)) else B4 by rw [← hq]; rfl)
                    have HV12 := Lib.hid (HV4.out.below hb12)
                    have HU12 := Lib.hid (HU4.out.below hb12)
                    clear hb12 hq kq z0 z1 z2 z3
                    cases q with
                    | true =>
                      go_wp2_with fail
                      refine (found_any p _ B4 4 (i : Int) (at' : Int) w12 HV12.out.at_).mono ?_
                      rintro e w13 ⟨rfl, hv13, hu13⟩
                      have HV13 := Lib.hid (HV12.out.turn hu13 hv13)
                      have HU13 := Lib.hid (HU12.out.trans hu13 (fun _ _ h => h))
                      clear hv13 hu13
                      go_wp2_with fail
                      go_roundg (4 - (0 + 1))
                      case measure => have := HK4.out; omega
                      case rel => exact ⟨1, by omega, rfl, rfl, by rw [foldl_range_snoc, HB4.out, HQQ.out]; exact HV13.out, HU13.out⟩
                    | false =>
                      go_wp2_with fail
                      go_roundg (4 - (0 + 1))
                      case measure => have := HK4.out; omega
                      case rel => exact ⟨1, by omega, rfl, rfl, by rw [foldl_range_snoc, HB4.out, HQQ.out, if_neg (by decide)]; exact HV12.out, HU12.out⟩
                  · have kq : wr.cell? ⟨gq, 1, none⟩ = some (.func (.func 29) #[.pointer (some ⟨p, 0, none⟩)] #[]) := (cell_of_row wr gq 1 _ _ _ HQ4.out).trans rfl
                    go_wp2_with fail
                    refine (both_any p _ cv cs B4 i at' cc m wr HV4.out HCC.out).mono ?_
                    obtain ⟨q, hq⟩ : ∃ q, bothS cs (i : Int) m = q := ⟨_, rfl⟩
                    rw [hq]
                    rintro e w12 ⟨rfl, hb12⟩
                    have HQQ := Lib.hid (show ruleB cs i cc at' m B4 1 = if q = true then bestOf B4 (5, (i : Int), (at' : Int)) else B4 by rw [← hq]; rfl)
                    have HV12 := Lib.hid (HV4.out.below hb12)
                    have HU12 := Lib.hid (HU4.out.below hb12)
                    clear hb12 hq kq z0 z1 z2 z3
                    cases q with
                    | true =>
                      go_wp2_with fail
                      refine (found_any p _ B4 5 (i : Int) (at' : Int) w12 HV12.out.at_).mono ?_
                      rintro e w13 ⟨rfl, hv13, hu13⟩
                      have HV13 := Lib.hid (HV12.out.turn hu13 hv13)
                      have HU13 := Lib.hid (HU12.out.trans hu13 (fun _ _ h => h))
                      clear hv13 hu13
                      go_wp2_with fail
                      go_roundg (4 - (1 + 1))
                      case measure => have := HK4.out; omega
                      case rel => exact ⟨2, by omega, rfl, rfl, by rw [foldl_range_snoc, HB4.out, HQQ.out]; exact HV13.out, HU13.out⟩
                    | false =>
                      go_wp2_with fail
                      go_roundg (4 - (1 + 1))
                      case measure => have := HK4.out; omega
                      case rel => exact ⟨2, by omega, rfl, rfl, by rw [foldl_range_snoc, HB4.out, HQQ.out, if_neg (by decide)]; exact HV12.out, HU12.out⟩
                  · have kq : wr.cell? ⟨gq, 2, none⟩ = some (.func (.func 30) #[.pointer (some ⟨p, 0, none⟩)] #[]) := (cell_of_row wr gq 2 _ _ _ HQ4.out).trans rfl
                    go_wp2_with fail
                    refine (bare_any p _ cv cs B4 i at' cc m wr HV4.out HCC.out (Nat.le_of_lt HLT3.out)).mono ?_
                    obtain ⟨q, hq⟩ : ∃ q, bareS (cc.recs.take at') m = q := ⟨_, rfl⟩
                    rw [hq]
                    rintro e w12 ⟨rfl, hb12⟩
                    have HQQ := Lib.hid (show ruleB cs i cc at' m B4 2 = if q = true then bestOf B4 (6, (i : Int), (at' : Int)) else B4 by rw [← hq]; rfl)
                    have HV12 := Lib.hid (HV4.out.below hb12)
                    have HU12 := Lib.hid (HU4.out.below hb12)
                    clear hb12 hq kq z0 z1 z2 z3
                    cases q with
                    | true =>
                      go_wp2_with fail
                      refine (found_any p _ B4 6 (i : Int) (at' : Int) w12 HV12.out.at_).mono ?_
                      rintro e w13 ⟨rfl, hv13, hu13⟩
                      have HV13 := Lib.hid (HV12.out.turn hu13 hv13)
                      have HU13 := Lib.hid (HU12.out.trans hu13 (fun _ _ h => h))
                      clear hv13 hu13
                      go_wp2_with fail
                      go_roundg (4 - (2 + 1))
                      case measure => have := HK4.out; omega
                      case rel => exact ⟨3, by omega, rfl, rfl, by rw [foldl_range_snoc, HB4.out, HQQ.out]; exact HV13.out, HU13.out⟩
                    | false =>
                      go_wp2_with fail
                      go_roundg (4 - (2 + 1))
                      case measure => have := HK4.out; omega
                      case rel => exact ⟨3, by omega, rfl, rfl, by rw [foldl_range_snoc, HB4.out, HQQ.out, if_neg (by decide)]; exact HV12.out, HU12.out⟩
                  · have kq : wr.cell? ⟨gq, 3, none⟩ = some (.func (.func 31) #[.pointer (some ⟨p, 0, none⟩)] #[]) := (cell_of_row wr gq 3 _ _ _ HQ4.out).trans rfl
                    go_wp2_with fail
                    refine (strange_any p _ cv cs B4 i (at' : Int) cc m wr HV4.out HCC.out ((HV4.out.cf cc (List.mem_of_getElem? HCC.out)).rg m HMM.out).1.r ((HV4.out.cf cc (List.mem_of_getElem? HCC.out)).rg m HMM.out).2).mono ?_
                    obtain ⟨q, hq⟩ : ∃ q, strangeS cs (i : Int) cc.group m = q := ⟨_, rfl⟩
                    rw [hq]
                    rintro e w12 ⟨rfl, hb12⟩
                    have HQQ := Lib.hid (show ruleB cs i cc at' m B4 3 = if q = true then bestOf B4 (7, (i : Int), (at' : Int)) else B4 by rw [← hq]; rfl)
                    have HV12 := Lib.hid (HV4.out.below hb12)
                    have HU12 := Lib.hid (HU4.out.below hb12)
                    clear hb12 hq kq z0 z1 z2 z3
                    cases q with
                    | true =>
                      go_wp2_with fail
                      refine (found_any p _ B4 7 (i : Int) (at' : Int) w12 HV12.out.at_).mono ?_
                      rintro e w13 ⟨rfl, hv13, hu13⟩
                      have HV13 := Lib.hid (HV12.out.turn hu13 hv13)
                      have HU13 := Lib.hid (HU12.out.trans hu13 (fun _ _ h => h))
                      clear hv13 hu13
                      go_wp2_with fail
                      go_roundg (4 - (3 + 1))
                      case measure => have := HK4.out; omega
                      case rel => exact ⟨4, by omega, rfl, rfl, by rw [foldl_range_snoc, HB4.out, HQQ.out]; exact HV13.out, HU13.out⟩
                    | false =>
                      go_wp2_with fail
                      go_roundg (4 - (3 + 1))
                      case measure => have := HK4.out; omega
                      case rel => exact ⟨4, by omega, rfl, rfl, by rw [foldl_range_snoc, HB4.out, HQQ.out, if_neg (by decide)]; exact HV12.out, HU12.out⟩
                · obtain rfl : k4 = 4 := by omega
                  clear z0 z1 z2 z3 hlt4 hi4
                  have HB3E := Lib.hid (HB3S.out.trans ((HRB.out B3).trans HB4.out))
                  go_wp2_with fail
                  go_roundg (cc.recs.length - (at' + 1))
                  case measure => have := HK3.out; have := HLT3.out; omega
                  case rel => exact ⟨at' + 1, HLT3.out, rfl, by go_num, by rw [HB3E.out]; exact HV4.out, HU10.out.trans HU4.out (fun _ _ h => h)⟩
            · obtain rfl : at' = cc.recs.length := by omega
              clear hlt3 hi3
              have hnl3 : ¬ ((cc.recs.length : Int) < (cc.recs.length : Int)) := by omega
              go_wp2_with fail
              go_roundg (cs.length - (i + 1))
              case measure => have := HK.out; have := HLT.out; omega
              case rel =>
                obtain ⟨i', h1, h2, h3, h4, h5⟩ := HRR.out _ (by rw [HCB1.out]; exact HV3.out) HU3.out
                exact ⟨i', h1, h2, Eq.trans (by go_num) h3, h4, h5⟩
        · obtain rfl : i = cs.length := by omega
          have hvs : (List.range cs.length).foldl (clB cs) (0, 0, 0) = verS cs := rfl
          rw [hvs] at HVX
          obtain ⟨b0, b1, b2, hb⟩ : ∃ b0 b1 b2, verS cs = (b0, b1, b2) := ⟨_, _, _, rfl⟩
          have HBE := Lib.hid hb
          rw [hb] at HVX
          obtain ⟨w9, hw9⟩ : ∃ w9, w9 = wr := ⟨_, rfl⟩
          rw [← hw9] at HVX HUX ⊢
          have HZ9 := Lib.hid (show w9.heap[bz]? = some (.cells #[.int .i64 0, .int .i64 0, .int .i64 0] 33 (0, 0)) from (HUX.out.block bz (Array.getElem?_eq_some_iff.1 HZ7.out).1 HBP.out).trans HZ7.out)
          have HPX := Lib.hid (show ∀ W, Upd (fun k => k = bz) w9 W → VAt W p (.slice Av cs.length cv) (b0, b1, b2) from fun W hW => (hW.block p HVX.out.lt (fun e => HBP.out e.symm)).trans HVX.out.at_)
          have HB9 := Lib.hid (below_upd HB7.out HB7.out.size HUX.out (fun k hk => by have := HP.out; omega))
          have hnl2 : ¬ ((cs.length : Int) < (cs.length : Int)) := by omega
          clear hw9 hlt hi hb hvs HVX HUX HK
          go_upto_region 27 with fail
          refine region_byW (fun W => Upd (fun k => k = bz) w9 W ∧ ∃ v0 v1 v2, W.heap[bz]? = some (.cells #[v0, v1, v2] 33 (0, 0))) [(fun v _ => v = .pointer (some ⟨p, 0, none⟩)), (fun v _ => v = .pointer (some ⟨p, 0, none⟩)), (fun v _ => v = .pointer (some ⟨p, 1, none⟩)), (fun v _ => v = .agg #[.int .i64 b0, .int .i64 b1, .int .i64 b2]), (fun v _ => v = .pointer (some ⟨p, 0, none⟩)), (fun v _ => v = .pointer (some ⟨p, 0, none⟩)), (fun v _ => v = .pointer (some ⟨p, 1, none⟩)), (fun v _ => v = .pointer (some ⟨p, 1, none⟩)), (fun v _ => v = .int .i64 b0), (fun v _ => v = .bool (b0 == 0)), fun _ W => W.heap[bz]? = some (.cells #[.int .i64 b0, .int .i64 b1, .int .i64 b2] 33 (0, 0)), (fun v _ => v = .bool (b0 == 0))] (by kernel_rfl) (by kernel_rfl) (by kernel_rfl) rfl (⟨(Upd.refl _ _).drew, _, _, _, HZ9.out⟩) ?ok27 ?fin27
          case ok27 =>
            refine ⟨?_, ?_, ?_, ?_, ?_, ?_, ?_, ?_, ?_, ?_, ?_, ?_, trivial⟩
            · intro a' w' K hI hd hq hK
              have e4 : a'.eval (.tmp 4) = .pointer (some ⟨p, 0, none⟩) := (hq 4 (by kernel_rfl)).trans rfl
              clear hd hq
              refine op_value (wanted_free _ _ (by rfl)) (v := .pointer (some ⟨p, 0, none⟩)) (w'' := w') ?_ (hK _ _ hI (fun _ _ h => h) rfl)
              clear hK
              simp only [execOp, e4]
              have f4 : a'.tmps[4]?.getD undef = .pointer (some ⟨p, 0, none⟩) := (Array.getD_eq_getD_getElem? ..).symm.trans e4
              clear e4
              first | rfl | (go_simp <;> exact IntWalk.i64_in _ (by omega))
            · intro a' w' K hI hd hq hK
              have e103 : a'.eval (.tmp 103) = .pointer (some ⟨p, 0, none⟩) := (hd 0 103 (by kernel_rfl))
              clear hd hq
              refine op_value (wanted_free _ _ (by rfl)) (v := .pointer (some ⟨p, 0, none⟩)) (w'' := w') ?_ (hK _ _ hI (fun _ _ h => h) rfl)
              clear hK
              simp only [execOp, e103]
              have f103 : a'.tmps[103]?.getD undef = .pointer (some ⟨p, 0, none⟩) := (Array.getD_eq_getD_getElem? ..).symm.trans e103
              clear e103
              first | rfl | (go_simp <;> exact IntWalk.i64_in _ (by omega))
            · intro a' w' K hI hd hq hK
              have e104 : a'.eval (.tmp 104) = .pointer (some ⟨p, 0, none⟩) := (hd 1 104 (by kernel_rfl))
              clear hd hq
              refine op_value (wanted_free _ _ (by rfl)) (v := .pointer (some ⟨p, 1, none⟩)) (w'' := w') ?_ (hK _ _ hI (fun _ _ h => h) rfl)
              clear hK
              simp only [execOp, e104]
              have f104 : a'.tmps[104]?.getD undef = .pointer (some ⟨p, 0, none⟩) := (Array.getD_eq_getD_getElem? ..).symm.trans e104
              clear e104
              first | rfl | (go_simp <;> exact IntWalk.i64_in _ (by omega))
            · intro a' w' K hI hd hq hK
              have e105 : a'.eval (.tmp 105) = .pointer (some ⟨p, 1, none⟩) := (hd 2 105 (by kernel_rfl))
              clear hd hq
              have hva := HPX.out w' hI.1
              have c1 : w'.cell? ⟨p, 1, none⟩ = some (.int .i64 b0) := (cell_of_row w' p 1 _ _ _ hva).trans rfl
              have c2 : w'.cell? ⟨p, 2, none⟩ = some (.int .i64 b1) := (cell_of_row w' p 2 _ _ _ hva).trans rfl
              have c3 : w'.cell? ⟨p, 3, none⟩ = some (.int .i64 b2) := (cell_of_row w' p 3 _ _ _ hva).trans rfl
              refine op_value (wanted_free _ _ (by rfl)) (v := .agg #[.int .i64 b0, .int .i64 b1, .int .i64 b2]) (w'' := w') ?_ (hK _ _ hI (fun _ _ h => h) rfl)
              clear hK
              simp only [execOp, e105]
              have f105 : a'.tmps[105]?.getD undef = .pointer (some ⟨p, 1, none⟩) := (Array.getD_eq_getD_getElem? ..).symm.trans e105
              clear e105
              first | rfl | (go_simp <;> exact IntWalk.i64_in _ (by omega))
            · intro a' w' K hI hd hq hK
              have e4 : a'.eval (.tmp 4) = .pointer (some ⟨p, 0, none⟩) := (hq 4 (by kernel_rfl)).trans rfl
              clear hd hq
              refine op_value (wanted_free _ _ (by rfl)) (v := .pointer (some ⟨p, 0, none⟩)) (w'' := w') ?_ (hK _ _ hI (fun _ _ h => h) rfl)
              clear hK
              simp only [execOp, e4]
              have f4 : a'.tmps[4]?.getD undef = .pointer (some ⟨p, 0, none⟩) := (Array.getD_eq_getD_getElem? ..).symm.trans e4
              clear e4
              first | rfl | (go_simp <;> exact IntWalk.i64_in _ (by omega))
            · intro a' w' K hI hd hq hK
              have e107 : a'.eval (.tmp 107) = .pointer (some ⟨p, 0, none⟩) := (hd 4 107 (by kernel_rfl))
              clear hd hq
              refine op_value (wanted_free _ _ (by rfl)) (v := .pointer (some ⟨p, 0, none⟩)) (w'' := w') ?_ (hK _ _ hI (fun _ _ h => h) rfl)
              clear hK
              simp only [execOp, e107]
              have f107 : a'.tmps[107]?.getD undef = .pointer (some ⟨p, 0, none⟩) := (Array.getD_eq_getD_getElem? ..).symm.trans e107
              clear e107
              first | rfl | (go_simp <;> exact IntWalk.i64_in _ (by omega))
            · intro a' w' K hI hd hq hK
              have e108 : a'.eval (.tmp 108) = .pointer (some ⟨p, 0, none⟩) := (hd 5 108 (by kernel_rfl))
              clear hd hq
              refine op_value (wanted_free _ _ (by rfl)) (v := .pointer (some ⟨p, 1, none⟩)) (w'' := w') ?_ (hK _ _ hI (fun _ _ h => h) rfl)
              clear hK
              simp only [execOp, e108]
              have f108 : a'.tmps[108]?.getD undef = .pointer (some ⟨p, 0, none⟩) := (Array.getD_eq_getD_getElem? ..).symm.trans e108
              clear e108
              first | rfl | (go_simp <;> exact IntWalk.i64_in _ (by omega))
            · intro a' w' K hI hd hq hK
              have e109 : a'.eval (.tmp 109) = .pointer (some ⟨p, 1, none⟩) := (hd 6 109 (by kernel_rfl))
              clear hd hq
              refine op_value (wanted_free _ _ (by rfl)) (v := .pointer (some ⟨p, 1, none⟩)) (w'' := w') ?_ (hK _ _ hI (fun _ _ h => h) rfl)
              clear hK
              simp only [execOp, e109]
              have f109 : a'.tmps[109]?.getD undef = .pointer (some ⟨p, 1, none⟩) := (Array.getD_eq_getD_getElem? ..).symm.trans e109
              clear e109
              first | rfl | (go_simp <;> exact IntWalk.i64_in _ (by omega))
            · intro a' w' K hI hd hq hK
              have e110 : a'.eval (.tmp 110) = .pointer (some ⟨p, 1, none⟩) := (hd 7 110 (by kernel_rfl))
              clear hd hq
              have hva := HPX.out w' hI.1
              have c1 : w'.cell? ⟨p, 1, none⟩ = some (.int .i64 b0) := (cell_of_row w' p 1 _ _ _ hva).trans rfl
              refine op_value (wanted_free _ _ (by rfl)) (v := .int .i64 b0) (w'' := w') ?_ (hK _ _ hI (fun _ _ h => h) rfl)
              clear hK
              simp only [execOp, e110]
              have f110 : a'.tmps[110]?.getD undef = .pointer (some ⟨p, 1, none⟩) := (Array.getD_eq_getD_getElem? ..).symm.trans e110
              clear e110
              first | rfl | (go_simp <;> exact IntWalk.i64_in _ (by omega))
            · intro a' w' K hI hd hq hK
              have e111 : a'.eval (.tmp 111) = .int .i64 b0 := (hd 8 111 (by kernel_rfl))
              clear hd hq
              refine op_value (wanted_free _ _ (by rfl)) (v := .bool (b0 == 0)) (w'' := w') ?_ (hK _ _ hI (fun _ _ h => h) rfl)
              clear hK
              simp only [execOp, e111]
              have f111 : a'.tmps[111]?.getD undef = .int .i64 b0 := (Array.getD_eq_getD_getElem? ..).symm.trans e111
              clear e111
              first | rfl | (go_simp <;> exact IntWalk.i64_in _ (by omega))
            · intro a' w' K hI hd hq hK
              have e2 : a'.eval (.tmp 2) = .pointer (some ⟨bz, 0, none⟩) := (hq 2 (by kernel_rfl)).trans rfl
              have e106 : a'.eval (.tmp 106) = .agg #[.int .i64 b0, .int .i64 b1, .int .i64 b2] := (hd 3 106 (by kernel_rfl))
              clear hd hq
              obtain ⟨v0, v1, v2, hz⟩ := hI.2
              have f0 := frozen_of_row w' bz 0 _ _ hz
              have f1 := frozen_of_row w' bz 1 _ _ hz
              have f2 := frozen_of_row w' bz 2 _ _ hz
              have c0 : w'.cell? ⟨bz, 0, none⟩ = some v0 := (cell_of_row w' bz 0 _ _ _ hz).trans rfl
              have c1 : w'.cell? ⟨bz, 1, none⟩ = some v1 := (cell_of_row w' bz 1 _ _ _ hz).trans rfl
              have c2 : w'.cell? ⟨bz, 2, none⟩ = some v2 := (cell_of_row w' bz 2 _ _ _ hz).trans rfl
              have hz2 : (((w'.setCell ⟨bz, 0, none⟩ (.int .i64 b0)).setCell ⟨bz, 1, none⟩ (.int .i64 b1)).setCell ⟨bz, 2, none⟩ (.int .i64 b2)).heap[bz]? = some (.cells #[.int .i64 b0, .int .i64 b1, .int .i64 b2] 33 (0, 0)) := by
                rw [setCell_at (setCell_at (setCell_at hz _) _) _]
                rfl
              have hu2 : Upd (fun k => k = bz) w' (((w'.setCell ⟨bz, 0, none⟩ (.int .i64 b0)).setCell ⟨bz, 1, none⟩ (.int .i64 b1)).setCell ⟨bz, 2, none⟩ (.int .i64 b2)) := (((Upd.refl (fun k => k = bz) w').setCell (p := ⟨bz, 0, none⟩) (fun _ => rfl) _).setCell (p := ⟨bz, 1, none⟩) (fun _ => rfl) _).setCell (p := ⟨bz, 2, none⟩) (fun _ => rfl) _
              refine op_skip (wanted_free _ _ (by rfl)) rfl (w'' := (((w'.setCell ⟨bz, 0, none⟩ (.int .i64 b0)).setCell ⟨bz, 1, none⟩ (.int .i64 b1)).setCell ⟨bz, 2, none⟩ (.int .i64 b2))) ?_ (hK undef _ ⟨hI.1.trans hu2 (fun _ _ h => h), _, _, _, hz2⟩ (fun j u => by match j with | 0 | 1 | 2 | 3 | 4 | 5 | 6 | 7 | 8 | 9 | 11 => exact fun h => h | 10 => exact fun _ => hz2 | _ + 12 => exact fun _ => trivial) hz2)
              clear hK hI hz hz2 hu2
              simp only [execOp, e2, e106]
              have g2 : a'.tmps[2]?.getD undef = .pointer (some ⟨bz, 0, none⟩) := (Array.getD_eq_getD_getElem? ..).symm.trans e2
              have g106 : a'.tmps[106]?.getD undef = .agg #[.int .i64 b0, .int .i64 b1, .int .i64 b2] := (Array.getD_eq_getD_getElem? ..).symm.trans e106
              clear e2 e106
              go_simp
            · intro a' w' K hI hd hq hK
              have e112 : a'.eval (.tmp 112) = .bool (b0 == 0) := (hd 9 112 (by kernel_rfl))
              clear hd hq
              refine op_value (wanted_free _ _ (by rfl)) (v := .bool (b0 == 0)) (w'' := w') ?_ (hK _ _ hI (fun _ _ h => h) rfl)
              clear hK
              simp only [execOp, e112]
              have f112 : a'.tmps[112]?.getD undef = .bool (b0 == 0) := (Array.getD_eq_getD_getElem? ..).symm.trans e112
              clear e112
              first | rfl | (go_simp <;> exact IntWalk.i64_in _ (by omega))
          case fin27 =>
            rintro w' hI _ rfl _ rfl _ rfl _ rfl _ rfl _ rfl _ rfl _ rfl _ rfl _ rfl _ hfin _ rfl
            simp only [Act.put, List.setIfInBounds_toArray, List.set_cons_zero, List.set_cons_succ, FinGoal]
            obtain ⟨hU, _⟩ := hI
            have HFIN := Lib.hid hfin
            have HU9 := Lib.hid hU
            clear hfin hU
            go_wp2_with fail
            try simp only [Exit.inBlock, Exit.then]
            refine bodyPost_ret (v := .tuple #[.agg #[.int .i64 b0, .int .i64 b1, .int .i64 b2], .bool (b0 == 0)]) ?_ rfl ?_
            · refine Eq.trans (results_row_tmp rfl _ _ bz 33 _ (0, 0) _ rfl HFIN.out Try.underlying33 rfl infoFlt) ?_
              rfl
            · refine ⟨cs, HMQ.out, ?_, below_upd HB9.out HB9.out.size HU9.out (fun k hk => by have := HBZ.out; omega)⟩
              rw [HBE.out]
end Go.Proofs.Ytjakhemolecbnaa
end
