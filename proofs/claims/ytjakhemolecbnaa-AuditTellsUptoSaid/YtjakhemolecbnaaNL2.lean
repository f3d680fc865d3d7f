/-
  The texts RefIn of this proof in one (what is used of them): what each proves is said at its head. No conditions beyond those that each theorem says.
-/
import Derived.Deep.CutBlock
import Derived.Test.YtjakhemolecbnaaNH

/-
  The walk of the law's in: claims for the reference.
-/
section
set_option linter.unusedVariables false
set_option linter.unusedSimpArgs false
namespace Go.Proofs.Ytjakhemolecbnaa
open Go.RowKit

theorem getD_setN (l : Array Bool) {i j : Nat} (h : i ≠ j) : (l.setIfInBounds j true).getD i false = l.getD i false := by
  rw [Array.getD_eq_getD_getElem?, Array.getD_eq_getD_getElem?, Array.getElem?_setIfInBounds, if_neg (fun e => h e.symm)]
/-- Which world there is, by what is done. -/
def wAt5 (wa wb wc wd we : World) (l : Array Bool) : World := if l.getD 15 false = true then we else if l.getD 14 false = true then wd else if l.getD 12 false = true then wc else if l.getD 6 false = true then wb else wa
structure TJ (wa wb wc wd we : World) (l : Array Bool) (W : World) : Prop where
  eq : W = wAt5 wa wb wc wd we l
theorem TJ.set {wa wb wc wd we : World} {l : Array Bool} {W : World} (h : TJ wa wb wc wd we l W) (j : Nat) (hj : j ≠ 6 ∧ j ≠ 12 ∧ j ≠ 14 ∧ j ≠ 15 := by decide) : TJ wa wb wc wd we (l.setIfInBounds j true) W := by
  constructor
  rw [h.eq]
  unfold wAt5
  rw [getD_setN l (Ne.symm hj.1), getD_setN l (Ne.symm hj.2.1), getD_setN l (Ne.symm hj.2.2.1), getD_setN l (Ne.symm hj.2.2.2)]
theorem tj_below {B : Nat} {w wa wb wc wd we : World} (h : Below B w wa ∧ Below B w wb ∧ Below B w wc ∧ Below B w wd ∧ Below B w we) (l : Array Bool) : Below B w (wAt5 wa wb wc wd we l) := by
  unfold wAt5
  obtain ⟨h1, h2, h3, h4, h5⟩ := h
  split
  · exact h5
  · split
    · exact h4
    · split
      · exact h3
      · split
        · exact h2
        · exact h1
theorem infoClr : (Try.prog.info? 82).map (fun i => (i.zero, i.size, i.bytes)) = some (some (.agg #[.int .i64 0, .slice none 0 0]), 2, 32) := by kernel_rfl
/-- Claims for the reference, in a row that grows. -/
structure ClsR (w : World) (B : Nat) (v : Value) (L : List Cl) : Prop where
  own : w.ownsRow B 82 2 v L.length (clc L)
  b : ∀ x ∈ L, BtG w B v x
  cap : ∀ x ∈ L, x.l.length ≤ x.c
theorem ClsR.nil (w : World) (B : Nat) : ClsR w B (.slice none 0 0) [] := ⟨World.ownsRow_nil _ _ _ _, (fun m hm => by cases hm), (fun m hm => by cases hm)⟩
theorem ClsR.below {w w' : World} {B : Nat} {v : Value} {L : List Cl} (h : ClsR w B v L) (hb : Below w.heap.size w w') : ClsR w' B v L := ⟨own_below h.own hb, fun m hm => (h.b m hm).below hb, h.cap⟩
theorem ClsR.at_ {w : World} {B n c : Nat} {A : Option Addr} {L : List Cl} (h : ClsR w B (.slice A n c) L) : ClsAt w A L := ⟨own_RC h.own, fun x hx => (h.b x hx).rb⟩
theorem ClsR.push {w W : World} {B k0 : Nat} {v v' : Value} {L : List Cl} {x : Cl} (h : ClsR w B v L) (hm : BtG w B v x) (hc : x.l.length ≤ x.c) (ho : W.ownsRow B 82 2 v' (L.length + 1) (clc L ++ x.cells)) (hu : Upd (fun k => v.ownBlock = some k) w W) (hat : v'.ownBlock = v.ownBlock ∨ v'.ownBlock = some k0) (hk : w.heap.size ≤ k0) : ClsR W B v' (L ++ [x]) := by
  refine ⟨?_, fun q hq => ?_, fun q hq => ?_⟩
  · rw [clc_append, List.length_append, show clc [x] = x.cells by simp [clc]]
    exact ho
  · have h9 : BtG w B v q := by
      rcases List.mem_append.1 hq with h1 | h1
      · exact h.b q h1
      · rw [List.mem_singleton.1 h1]; exact hm
    have h10 := h9.upd hu (fun h0 ad e => (h9.off h0 ad e).2.2)
    refine ⟨h10.rc, h10.nil, h10.le, fun h0 ad e => ⟨(h10.off h0 ad e).1, (h10.off h0 ad e).2.1, fun h5 => ?_⟩⟩
    rcases hat with h | h
    · exact (h9.off h0 ad e).2.2 (h.symm.trans h5)
    · rw [h] at h5
      have h6 := Option.some.inj h5
      have h7 := (h9.off h0 ad e).2.1
      omega
  · rcases List.mem_append.1 hq with h1 | h1
    · exact h.cap q h1
    · rw [List.mem_singleton.1 h1]; exact hc
def Cl.gl (x : Cl) : Int × List UInt8 := (x.g, x.l)
theorem gl_p {L M : List Cl} (h : L.map Cl.gl = M.map Cl.gl) : L.map Cl.p = M.map Cl.p := by
  have e : ∀ K : List Cl, K.map Cl.p = (K.map Cl.gl).map fun y => claimP y.1 y.2 := fun K => by rw [List.map_map]; rfl
  rw [e, e, h]
theorem gl_out {L M : List Cl} (h : L.map Cl.gl = M.map Cl.gl) (tx : List UInt8) : outS tx L = outS tx M := by
  have e : ∀ (K : List Cl) k, anyO k tx K = (K.map Cl.gl).any fun y => hasO k tx (linksD y.2) := fun K k => by rw [List.any_map]; rfl
  unfold outS
  rw [e, e, e, e, h]

set_option maxRecDepth 100000 in
set_option maxHeartbeats 8000000 in
theorem in_any (A : Option Addr) (n c : Nat) (L : List Cl) (w : World) (hl : L.length = n) (hn : n ≤ 1000) (hr : ClsAt w A L) :
    Calls Try.prog 12 #[.slice A n c] w fun e w' => ∃ (A' : Option Addr) (c' : Nat) (L' : List Cl), e = .returned (.slice A' L'.length c') ∧ L'.map Cl.gl = L.map Cl.gl ∧ ClsAt w' A' L' ∧ (∀ x ∈ L', x.l.length ≤ x.c) ∧ Below w.heap.size w w' := by
  subst hl
  have HR := Lib.hid hr
  have hn1 : (L.length : Int) ≤ 1000 := by omega
  clear hr
  go_enter Try.func12, Try.ntmps12
  go_wp2_with fail
  go_loopg [3, 4] L.length (fun k s3 s4 wr => ∃ out : List Cl, out.length ≤ L.length ∧ k = L.length - out.length ∧ s4 = .int .i64 (out.length : Int) ∧ out.map Cl.gl = (L.take out.length).map Cl.gl ∧ ClsR wr w.heap.size s3 out ∧ Below w.heap.size w wr)
  case atStart => exact ⟨[], by simp, rfl, rfl, rfl, ClsR.nil _ _, Below.refl _ _⟩
  case round =>
    obtain ⟨out, hi, hk, rfl, hgl, hg, hb⟩ := hrel
    obtain ⟨Ao, co, rfl, hco⟩ := own_slice hg.own
    have HK := Lib.hid hk
    have HGL := Lib.hid hgl
    have HG := Lib.hid hg
    have HB := Lib.hid hb
    clear hk hgl hg hb hco
    by_cases hlt : out.length < L.length
    · obtain ⟨x, hx⟩ : ∃ x, L[out.length]? = some x := ⟨_, List.getElem?_eq_getElem hlt⟩
      have HXM := Lib.hid (List.mem_of_getElem? hx)
      have HTK := Lib.hid (show (L.take (out.length + 1)).map Cl.gl = (L.take out.length).map Cl.gl ++ [x.gl] by
        obtain ⟨h1, h2⟩ := List.getElem?_eq_some_iff.1 hx
        rw [List.take_succ_eq_append_getElem hlt, List.map_append, h2]
        rfl)
      obtain ⟨b1, o1, rfl, e1⟩ := (HR.out.r).part (by rw [clc_length]; omega)
      have KCL := Lib.hid (show ∀ W, Below w.heap.size w W → W.cell? ⟨b1, o1 + out.length * 2, none⟩ = some (.int .i64 x.g) ∧ W.cell? ⟨b1, o1 + out.length * 2 + 1, none⟩ = some (.slice x.A x.l.length x.c) from fun W hW =>
        ⟨cell_below hW (e1 _ _ ((clc_get L out.length x hx 0 (by omega)).trans rfl)), by rw [Nat.add_assoc]; exact cell_below hW (e1 _ _ ((clc_get L out.length x hx 1 (by omega)).trans rfl))⟩)
      have hi0 : (0 : Int) ≤ (out.length : Int) := by omega
      have hi1 : (out.length : Int) < (L.length : Int) := by omega
      have hxb := HR.out.b x HXM.out
      obtain ⟨xg, xA, xc, xl⟩ := x
      dsimp only at *
      obtain ⟨z, hz⟩ : ∃ z, z = wr.heap.size := ⟨_, rfl⟩
      obtain ⟨wa, hwa⟩ : ∃ wa, wa = wr.drew := ⟨_, rfl⟩
      obtain ⟨wb, hwb⟩ : ∃ wb, wb = wa.alloc (.cells #[] 5) := ⟨_, rfl⟩
      have hza : wa.heap.size = z := by rw [hwa, hz]; rfl
      have bIa : Below wr.heap.size wr wa := by rw [hwa]; exact (Below.refl _ _).drew
      have bab : Below wa.heap.size wa wb := by rw [hwb]; exact (Below.refl _ _).alloc (Nat.le_refl _) _
      have bIb := below_below bIa bIa.size bab
      have own0 : wb.ownsRow z 5 1 (.slice (some ⟨z, 0, none⟩) 0 0) 0 [] :=
        ⟨rfl, .inr ⟨z, 0, #[], rfl, Nat.le_refl _, by rw [hwb, ← hza]; exact heap_alloc_new wa _, Nat.le_refl _, by decide, rfl, rfl⟩⟩
      have hsrc : RC wb xA (bv xl) := (hxb.1.below (below_below HB.out HB.out.size bIb)).cells
      have hone : ∀ u, u ∈ bv xl → u.oneCell' = true := by
        intro u hu
        obtain ⟨y, _, rfl⟩ := List.mem_map.1 hu
        rfl
      obtain ⟨vd, wc4, hrun4, own4, g4, hat4⟩ := run_append_any (P := Try.prog) wb z 25 25 5 (.int .u8 0) 1 1 Try.underlying25 info8 rfl (by omega) (by omega) (.slice (some ⟨z, 0, none⟩) 0 0) 0 [] own0 xA xl.length xc (bv xl) (by rw [bv_length]; omega) hsrc hone (by have := hxb.2.2; omega) (by have := bIb.size; omega)
      rw [Nat.zero_add, List.nil_append] at own4
      obtain ⟨Ab, cb, rfl, hcb⟩ := own_slice own4
      have u4 : Upd (fun k => (Value.slice (some ⟨z, 0, none⟩) 0 0).ownBlock = some k) wb wc4 := (Upd.refl _ wb).grown g4 (fun k hk _ => hk)
      have bI4 : Below wr.heap.size wr wc4 := below_upd bIb bIb.size u4 (fun k hk => by have := (World.ownsRow.lt own0 k hk).1; omega)
      obtain ⟨z2, hz2⟩ : ∃ z2, z2 = wc4.heap.size := ⟨_, rfl⟩
      obtain ⟨wd, hwd⟩ : ∃ wd, wd = wc4.alloc (.cells #[.int .i64 xg, .slice Ab xl.length cb] 82) := ⟨_, rfl⟩
      have b4d : Below wc4.heap.size wc4 wd := by rw [hwd]; exact (Below.refl _ _).alloc (Nat.le_refl _) _
      have bId := below_below bI4 bI4.size b4d
      have HGD := HG.out.below bId
      have hbt : BtG wd w.heap.size (.slice Ao out.length co) ⟨xg, Ab, cb, xl⟩ := by
        have h4 := own_RC own4
        refine ⟨h4.below b4d, fun e => ?_, hxb.2.2, fun h0 ad e => ?_⟩
        · exact own_nil own4 e
        · have hA : Ab = some ad := e
          have h1 := World.ownsRow.lt own4 ad.block (by rw [hA]; rfl)
          refine ⟨by have := HB.out.size; omega, Nat.lt_of_lt_of_le h1.2 b4d.size, fun h5 => ?_⟩
          have := (World.ownsRow.lt HG.out.own _ h5).2
          omega
      have hone2 : ∀ u ∈ ([.int .i64 xg, .slice Ab xl.length cb] : List Value), u.oneCell' = true := by
        intro u hu
        simp only [List.mem_cons, List.not_mem_nil, or_false] at hu
        rcases hu with rfl | rfl <;> rfl
      obtain ⟨ve, we, hrun8, own8, g8, hat8⟩ := run_append_any (P := Try.prog) wd w.heap.size 39 39 82 (.agg #[.int .i64 0, .slice none 0 0]) 2 32 Try.underlying39 infoClr rfl (by omega) (by omega) (.slice Ao out.length co) out.length (clc out) HGD.own (some ⟨z2, 0, none⟩) 1 1 [.int .i64 xg, .slice Ab xl.length cb] rfl (by rw [hwd, hz2]; exact RC_newL wc4 [.int .i64 xg, .slice Ab xl.length cb] _) hone2 (by omega) (by have := HB.out.size; have := bId.size; omega)
      obtain ⟨Ae, ce, rfl, hce⟩ := own_slice own8
      have u8 : Upd (fun k => (Value.slice Ao out.length co).ownBlock = some k) wd we := (Upd.refl _ wd).grown g8 (fun k hk _ => hk)
      have HNEW := Lib.hid (show ClsR we w.heap.size (.slice Ae (out.length + 1) ce) (out ++ [⟨xg, Ab, cb, xl⟩]) from HGD.push hbt hcb own8 u8 hat8 (Nat.le_refl _))
      have HBE := Lib.hid (show Below w.heap.size w we from below_upd (below_below HB.out HB.out.size bId) (by have := HB.out.size; have := bId.size; omega) u8 (fun k hk => (World.ownsRow.lt HG.out.own k hk).1))
      have HWS := Lib.hid (show Below w.heap.size w wa ∧ Below w.heap.size w wb ∧ Below w.heap.size w wc4 ∧ Below w.heap.size w wd ∧ Below w.heap.size w we from ⟨below_below HB.out HB.out.size bIa, below_below HB.out HB.out.size bIb, below_below HB.out HB.out.size bI4, below_below HB.out HB.out.size bId, HBE.out⟩)
      have HWA := Lib.hid hwa
      have HWB := Lib.hid hwb
      have HWD := Lib.hid hwd
      have HZ := Lib.hid hza
      have HZ2 := Lib.hid hz2.symm
      have HRUN4 := Lib.hid hrun4
      have HRUN8 := Lib.hid hrun8
      have HLT := Lib.hid hlt
      clear hx e1 hxb hwa hwb hza bIa bab bIb own0 hsrc hone hrun4 own4 g4 hat4 hcb u4 bI4 hz2 hwd b4d bId HGD hbt hone2 hrun8 own8 g8 hat8 hce u8 hz hlt hi
      go_upto_block 1 with fail
      go_cut [3] (fun s3 wx => s3 = .slice Ae (out.length + 1) ce ∧ wx = we)
      case first =>
        go_upto_region 5 with fail
        refine region_byD (TJ wa wb wc4 wd we) [(fun v _ => v = .slice Ao out.length co), (fun v _ => v = .slice (some ⟨b1, o1, none⟩) L.length c), (fun v _ => v = .int .i64 (out.length : Int)), (fun v _ => v = .pointer (some ⟨b1, o1 + out.length * 2, none⟩)), (fun v _ => v = .pointer (some ⟨b1, o1 + out.length * 2, none⟩)), fun v _ => v = .int .i64 xg, fun v _ => v = .slice (some ⟨z, 0, none⟩) 0 0, (fun v _ => v = .slice (some ⟨b1, o1, none⟩) L.length c), (fun v _ => v = .int .i64 (out.length : Int)), (fun v _ => v = .pointer (some ⟨b1, o1 + out.length * 2, none⟩)), (fun v _ => v = .pointer (some ⟨b1, o1 + out.length * 2 + 1, none⟩)), fun v _ => v = .slice xA xl.length xc, fun v _ => v = .slice Ab xl.length cb, (fun v _ => v = .agg #[.int .i64 xg, .slice Ab xl.length cb]), fun v _ => v = .slice (some ⟨z2, 0, none⟩) 1 1, fun v _ => v = .slice Ae (out.length + 1) ce, (fun v _ => v = .slice Ae (out.length + 1) ce)] (by kernel_rfl) (by kernel_rfl) (by kernel_rfl) rfl (⟨HWA.out.symm⟩) ?ok5 ?fin5
        case ok5 =>
          refine ⟨?_, ?_, ?_, ?_, ?_, ?_, ?_, ?_, ?_, ?_, ?_, ?_, ?_, ?_, ?_, ?_, ?_, trivial⟩
          · intro l a' w' K hI hcl hsz hn hdn hd hq hK
            have e3 : a'.eval (.tmp 3) = .slice Ao out.length co := (hq 3 (by kernel_rfl)).trans rfl
            clear hd hq hcl hsz hn hdn
            refine op_value (wanted_free _ _ (by rfl)) (v := .slice Ao out.length co) (w'' := w') ?_ (hK _ _ (hI.set _) (fun _ _ _ h => h) rfl)
            clear hK
            simp only [execOp, e3]
            have f3 : a'.tmps[3]?.getD undef = .slice Ao out.length co := (Array.getD_eq_getD_getElem? ..).symm.trans e3
            clear e3
            first | rfl | (go_simp <;> exact IntWalk.i64_in _ (by omega))
          · intro l a' w' K hI hcl hsz hn hdn hd hq hK
            have e0 : a'.eval (.tmp 0) = .slice (some ⟨b1, o1, none⟩) L.length c := (hq 0 (by kernel_rfl)).trans rfl
            clear hd hq hcl hsz hn hdn
            refine op_value (wanted_free _ _ (by rfl)) (v := .slice (some ⟨b1, o1, none⟩) L.length c) (w'' := w') ?_ (hK _ _ (hI.set _) (fun _ _ _ h => h) rfl)
            clear hK
            simp only [execOp, e0]
            have f0 : a'.tmps[0]?.getD undef = .slice (some ⟨b1, o1, none⟩) L.length c := (Array.getD_eq_getD_getElem? ..).symm.trans e0
            clear e0
            first | rfl | (go_simp <;> exact IntWalk.i64_in _ (by omega))
          · intro l a' w' K hI hcl hsz hn hdn hd hq hK
            have e4 : a'.eval (.tmp 4) = .int .i64 (out.length : Int) := (hq 4 (by kernel_rfl)).trans rfl
            clear hd hq hcl hsz hn hdn
            refine op_value (wanted_free _ _ (by rfl)) (v := .int .i64 (out.length : Int)) (w'' := w') ?_ (hK _ _ (hI.set _) (fun _ _ _ h => h) rfl)
            clear hK
            simp only [execOp, e4]
            have f4 : a'.tmps[4]?.getD undef = .int .i64 (out.length : Int) := (Array.getD_eq_getD_getElem? ..).symm.trans e4
            clear e4
            first | rfl | (go_simp <;> exact IntWalk.i64_in _ (by omega))
          · intro l a' w' K hI hcl hsz hn hdn hd hq hK
            have e12 : a'.eval (.tmp 12) = .slice (some ⟨b1, o1, none⟩) L.length c := (hd 1 12 (by kernel_rfl))
            have e13 : a'.eval (.tmp 13) = .int .i64 (out.length : Int) := (hd 2 13 (by kernel_rfl))
            clear hd hq hcl hsz hn hdn
            refine op_value (wanted_free _ _ (by rfl)) (v := .pointer (some ⟨b1, o1 + out.length * 2, none⟩)) (w'' := w') ?_ (hK _ _ (hI.set _) (fun _ _ _ h => h) rfl)
            clear hK
            simp only [execOp, e12, e13]
            have f12 : a'.tmps[12]?.getD undef = .slice (some ⟨b1, o1, none⟩) L.length c := (Array.getD_eq_getD_getElem? ..).symm.trans e12
            have f13 : a'.tmps[13]?.getD undef = .int .i64 (out.length : Int) := (Array.getD_eq_getD_getElem? ..).symm.trans e13
            clear e12 e13
            first | rfl | (go_simp <;> exact IntWalk.i64_in _ (by omega))
          · intro l a' w' K hI hcl hsz hn hdn hd hq hK
            have e14 : a'.eval (.tmp 14) = .pointer (some ⟨b1, o1 + out.length * 2, none⟩) := (hd 3 14 (by kernel_rfl))
            clear hd hq hcl hsz hn hdn
            refine op_value (wanted_free _ _ (by rfl)) (v := .pointer (some ⟨b1, o1 + out.length * 2, none⟩)) (w'' := w') ?_ (hK _ _ (hI.set _) (fun _ _ _ h => h) rfl)
            clear hK
            simp only [execOp, e14]
            have f14 : a'.tmps[14]?.getD undef = .pointer (some ⟨b1, o1 + out.length * 2, none⟩) := (Array.getD_eq_getD_getElem? ..).symm.trans e14
            clear e14
            first | rfl | (go_simp <;> exact IntWalk.i64_in _ (by omega))
          · intro l a' w' K hI hcl hsz hn hdn hd hq hK
            have e15 : a'.eval (.tmp 15) = .pointer (some ⟨b1, o1 + out.length * 2, none⟩) := (hd 4 15 (by kernel_rfl))
            clear hd hq
            have kx := KCL.out w' (by rw [hI.eq]; exact tj_below HWS.out l)
            refine op_value (wanted_free _ _ (by rfl)) (v := .int .i64 xg) (w'' := w') ?_ (hK _ _ (hI.set _) (fun _ _ _ h => h) rfl)
            clear hK hcl hsz hn hdn hI
            obtain ⟨kx0, kx1⟩ := kx
            simp only [execOp, e15]
            have f15 : a'.tmps[15]?.getD undef = .pointer (some ⟨b1, o1 + out.length * 2, none⟩) := (Array.getD_eq_getD_getElem? ..).symm.trans e15
            clear e15
            go_simp
          · intro l a' w' K hI hcl hsz hn hdn hd hq hK
            clear hd hq
            have h12 : l.getD 12 false = false := hcl 12 6 (by kernel_rfl) hn
            have h13 : l.getD 13 false = false := hcl 13 12 (by kernel_rfl) h12
            have h14 : l.getD 14 false = false := hcl 14 13 (by kernel_rfl) h13
            have h15 : l.getD 15 false = false := hcl 15 14 (by kernel_rfl) h14
            have hee : w' = wa := by have := hI.eq; unfold wAt5 at this; rwa [hn, h12, h14, h15] at this
            rw [hee]
            refine op_value (wanted_free _ _ (by rfl)) (v := .slice (some ⟨z, 0, none⟩) 0 0) (w'' := wb) ?_ (hK _ _ ⟨by unfold wAt5; rw [getD_setN l (by decide : (15 : Nat) ≠ 6), getD_setN l (by decide : (14 : Nat) ≠ 6), getD_setN l (by decide : (12 : Nat) ≠ 6), h15, h14, h12, setTrue (by rw [hsz]; exact of_decide_eq_true (by kernel_rfl))]; rfl⟩ (by rw [hee]; exact (fun j u => by match j with | 0 | 1 | 2 | 3 | 4 | 5 | 6 | 7 | 8 | 9 | 10 | 11 | 12 | 13 | 14 | 15 | 16 => exact fun _ h => h | _ + 17 => exact fun _ _ => trivial)) rfl)
            clear hK
            rw [HWB.out]
            simp only [execOp]
            go_simp
            all_goals first | exact HZ.out | rfl | skip
          · intro l a' w' K hI hcl hsz hn hdn hd hq hK
            have e0 : a'.eval (.tmp 0) = .slice (some ⟨b1, o1, none⟩) L.length c := (hq 0 (by kernel_rfl)).trans rfl
            clear hd hq hcl hsz hn hdn
            refine op_value (wanted_free _ _ (by rfl)) (v := .slice (some ⟨b1, o1, none⟩) L.length c) (w'' := w') ?_ (hK _ _ (hI.set _) (fun _ _ _ h => h) rfl)
            clear hK
            simp only [execOp, e0]
            have f0 : a'.tmps[0]?.getD undef = .slice (some ⟨b1, o1, none⟩) L.length c := (Array.getD_eq_getD_getElem? ..).symm.trans e0
            clear e0
            first | rfl | (go_simp <;> exact IntWalk.i64_in _ (by omega))
          · intro l a' w' K hI hcl hsz hn hdn hd hq hK
            have e4 : a'.eval (.tmp 4) = .int .i64 (out.length : Int) := (hq 4 (by kernel_rfl)).trans rfl
            clear hd hq hcl hsz hn hdn
            refine op_value (wanted_free _ _ (by rfl)) (v := .int .i64 (out.length : Int)) (w'' := w') ?_ (hK _ _ (hI.set _) (fun _ _ _ h => h) rfl)
            clear hK
            simp only [execOp, e4]
            have f4 : a'.tmps[4]?.getD undef = .int .i64 (out.length : Int) := (Array.getD_eq_getD_getElem? ..).symm.trans e4
            clear e4
            first | rfl | (go_simp <;> exact IntWalk.i64_in _ (by omega))
          · intro l a' w' K hI hcl hsz hn hdn hd hq hK
            have e18 : a'.eval (.tmp 18) = .slice (some ⟨b1, o1, none⟩) L.length c := (hd 7 18 (by kernel_rfl))
            have e19 : a'.eval (.tmp 19) = .int .i64 (out.length : Int) := (hd 8 19 (by kernel_rfl))
            clear hd hq hcl hsz hn hdn
            refine op_value (wanted_free _ _ (by rfl)) (v := .pointer (some ⟨b1, o1 + out.length * 2, none⟩)) (w'' := w') ?_ (hK _ _ (hI.set _) (fun _ _ _ h => h) rfl)
            clear hK
            simp only [execOp, e18, e19]
            have f18 : a'.tmps[18]?.getD undef = .slice (some ⟨b1, o1, none⟩) L.length c := (Array.getD_eq_getD_getElem? ..).symm.trans e18
            have f19 : a'.tmps[19]?.getD undef = .int .i64 (out.length : Int) := (Array.getD_eq_getD_getElem? ..).symm.trans e19
            clear e18 e19
            first | rfl | (go_simp <;> exact IntWalk.i64_in _ (by omega))
          · intro l a' w' K hI hcl hsz hn hdn hd hq hK
            have e20 : a'.eval (.tmp 20) = .pointer (some ⟨b1, o1 + out.length * 2, none⟩) := (hd 9 20 (by kernel_rfl))
            clear hd hq hcl hsz hn hdn
            refine op_value (wanted_free _ _ (by rfl)) (v := .pointer (some ⟨b1, o1 + out.length * 2 + 1, none⟩)) (w'' := w') ?_ (hK _ _ (hI.set _) (fun _ _ _ h => h) rfl)
            clear hK
            simp only [execOp, e20]
            have f20 : a'.tmps[20]?.getD undef = .pointer (some ⟨b1, o1 + out.length * 2, none⟩) := (Array.getD_eq_getD_getElem? ..).symm.trans e20
            clear e20
            first | rfl | (go_simp <;> exact IntWalk.i64_in _ (by omega))
          · intro l a' w' K hI hcl hsz hn hdn hd hq hK
            have e21 : a'.eval (.tmp 21) = .pointer (some ⟨b1, o1 + out.length * 2 + 1, none⟩) := (hd 10 21 (by kernel_rfl))
            clear hd hq
            have kx := KCL.out w' (by rw [hI.eq]; exact tj_below HWS.out l)
            refine op_value (wanted_free _ _ (by rfl)) (v := .slice xA xl.length xc) (w'' := w') ?_ (hK _ _ (hI.set _) (fun _ _ _ h => h) rfl)
            clear hK hcl hsz hn hdn hI
            obtain ⟨kx0, kx1⟩ := kx
            simp only [execOp, e21]
            have f21 : a'.tmps[21]?.getD undef = .pointer (some ⟨b1, o1 + out.length * 2 + 1, none⟩) := (Array.getD_eq_getD_getElem? ..).symm.trans e21
            clear e21
            go_simp
          · intro l a' w' K hI hcl hsz hn hdn hd hq hK
            have e17 : a'.eval (.tmp 17) = .slice (some ⟨z, 0, none⟩) 0 0 := (hd 6 17 (by kernel_rfl))
            have e22 : a'.eval (.tmp 22) = .slice xA xl.length xc := (hd 11 22 (by kernel_rfl))
            clear hd hq
            have h6 : l.getD 6 false = true := hdn 6 (by kernel_rfl)
            have h13 : l.getD 13 false = false := hcl 13 12 (by kernel_rfl) hn
            have h14 : l.getD 14 false = false := hcl 14 13 (by kernel_rfl) h13
            have h15 : l.getD 15 false = false := hcl 15 14 (by kernel_rfl) h14
            have hee : w' = wb := by have := hI.eq; unfold wAt5 at this; rwa [hn, h6, h14, h15] at this
            subst hee
            refine op_value (wanted_free _ _ (by rfl)) (v := .slice Ab xl.length cb) (w'' := wc4) ?_ (hK _ _ ⟨by unfold wAt5; rw [getD_setN l (by decide : (15 : Nat) ≠ 12), getD_setN l (by decide : (14 : Nat) ≠ 12), h15, h14, setTrue (by rw [hsz]; exact of_decide_eq_true (by kernel_rfl))]; rfl⟩ (fun j u => by match j with | 0 | 1 | 2 | 3 | 4 | 5 | 6 | 7 | 8 | 9 | 10 | 11 | 12 | 13 | 14 | 15 | 16 => exact fun _ h => h | _ + 17 => exact fun _ _ => trivial) rfl)
            clear hK
            simp only [execOp, resolve, invoke, builtin, Sem.run_bind, Sem.run_pure, Result.andThen_ok, List.map_toArray, List.map_cons, List.map_nil, e17, e22, HRUN4.out]
          · intro l a' w' K hI hcl hsz hn hdn hd hq hK
            have e16 : a'.eval (.tmp 16) = .int .i64 xg := (hd 5 16 (by kernel_rfl))
            have e23 : a'.eval (.tmp 23) = .slice Ab xl.length cb := (hd 12 23 (by kernel_rfl))
            clear hd hq hcl hsz hn hdn
            refine op_value (wanted_free _ _ (by rfl)) (v := .agg #[.int .i64 xg, .slice Ab xl.length cb]) (w'' := w') ?_ (hK _ _ (hI.set _) (fun _ _ _ h => h) rfl)
            clear hK
            simp only [execOp, e16, e23]
            have f16 : a'.tmps[16]?.getD undef = .int .i64 xg := (Array.getD_eq_getD_getElem? ..).symm.trans e16
            have f23 : a'.tmps[23]?.getD undef = .slice Ab xl.length cb := (Array.getD_eq_getD_getElem? ..).symm.trans e23
            clear e16 e23
            first | rfl | (go_simp <;> exact IntWalk.i64_in _ (by omega))
          · intro l a' w' K hI hcl hsz hn hdn hd hq hK
            have e24 : a'.eval (.tmp 24) = .agg #[.int .i64 xg, .slice Ab xl.length cb] := (hd 13 24 (by kernel_rfl))
            clear hd hq
            have h13 : l.getD 13 false = true := hdn 13 (by kernel_rfl)
            have h15 : l.getD 15 false = false := hcl 15 14 (by kernel_rfl) hn
            have h12 : l.getD 12 false = true := by
              cases hx : l.getD 12 false with
              | true => rfl
              | false => have := hcl 13 12 (by kernel_rfl) hx; rw [h13] at this; cases this
            have hee : w' = wc4 := by have := hI.eq; unfold wAt5 at this; rwa [hn, h12, h15] at this
            rw [hee]
            refine op_value (wanted_free _ _ (by rfl)) (v := .slice (some ⟨z2, 0, none⟩) 1 1) (w'' := wd) ?_ (hK _ _ ⟨by unfold wAt5; rw [getD_setN l (by decide : (15 : Nat) ≠ 14), h15, setTrue (by rw [hsz]; exact of_decide_eq_true (by kernel_rfl))]; rfl⟩ (by rw [hee]; exact (fun j u => by match j with | 0 | 1 | 2 | 3 | 4 | 5 | 6 | 7 | 8 | 9 | 10 | 11 | 12 | 13 | 14 | 15 | 16 => exact fun _ h => h | _ + 17 => exact fun _ _ => trivial)) rfl)
            clear hK
            rw [HWD.out]
            simp only [execOp, e24]
            have f24 : a'.tmps[24]?.getD undef = .agg #[.int .i64 xg, .slice Ab xl.length cb] := (Array.getD_eq_getD_getElem? ..).symm.trans e24
            clear e24
            go_simp
            all_goals first | exact HZ2.out | rfl | skip
          · intro l a' w' K hI hcl hsz hn hdn hd hq hK
            have e11 : a'.eval (.tmp 11) = .slice Ao out.length co := (hd 0 11 (by kernel_rfl))
            have e25 : a'.eval (.tmp 25) = .slice (some ⟨z2, 0, none⟩) 1 1 := (hd 14 25 (by kernel_rfl))
            clear hd hq
            have h14 : l.getD 14 false = true := hdn 14 (by kernel_rfl)
            have hee : w' = wd := by have := hI.eq; unfold wAt5 at this; rwa [hn, h14] at this
            subst hee
            refine op_value (wanted_free _ _ (by rfl)) (v := .slice Ae (out.length + 1) ce) (w'' := we) ?_ (hK _ _ ⟨by unfold wAt5; rw [setTrue (by rw [hsz]; exact of_decide_eq_true (by kernel_rfl))]; rfl⟩ (fun j u => by match j with | 0 | 1 | 2 | 3 | 4 | 5 | 6 | 7 | 8 | 9 | 10 | 11 | 12 | 13 | 14 | 15 | 16 => exact fun _ h => h | _ + 17 => exact fun _ _ => trivial) rfl)
            clear hK
            simp only [execOp, resolve, invoke, builtin, Sem.run_bind, Sem.run_pure, Result.andThen_ok, List.map_toArray, List.map_cons, List.map_nil, e11, e25, HRUN8.out]
          · intro l a' w' K hI hcl hsz hn hdn hd hq hK
            have e26 : a'.eval (.tmp 26) = .slice Ae (out.length + 1) ce := (hd 15 26 (by kernel_rfl))
            clear hd hq hcl hsz hn hdn
            refine op_value (wanted_free _ _ (by rfl)) (v := .slice Ae (out.length + 1) ce) (w'' := w') ?_ (hK _ _ (hI.set _) (fun _ _ _ h => h) rfl)
            clear hK
            simp only [execOp, e26]
            have f26 : a'.tmps[26]?.getD undef = .slice Ae (out.length + 1) ce := (Array.getD_eq_getD_getElem? ..).symm.trans e26
            clear e26
            first | rfl | (go_simp <;> exact IntWalk.i64_in _ (by omega))
        case fin5 =>
          rintro l w' hsz hall hI _ rfl _ rfl _ rfl _ rfl _ rfl _ rfl _ rfl _ rfl _ rfl _ rfl _ rfl _ rfl _ rfl _ rfl _ rfl _ rfl _ rfl
          simp only [Act.put, List.setIfInBounds_toArray, List.set_cons_zero, List.set_cons_succ, FinGoal]
          have hwe : w' = we := hI.eq.trans (by unfold wAt5; rw [hall 15 (of_decide_eq_true (by kernel_rfl))]; rfl)
          clear hI
          subst hwe
          go_wp2_with fail
          go_meet
          exact ⟨rfl, rfl⟩
      case rest =>
        obtain ⟨rfl, hwx⟩ := hcut
        have hwx2 := hwx.symm
        clear hwx
        subst hwx2
        go_wp2_with fail
        go_roundg (L.length - (out.length + 1))
        case measure => have := HK.out; have := HLT.out; omega
        case rel => exact ⟨out ++ [⟨xg, Ab, cb, xl⟩], by simp; exact HLT.out, by simp, by simp, by rw [List.length_append, List.map_append, HGL.out]; exact HTK.out.symm, HNEW.out, HBE.out⟩
    · have hE : out.length = L.length := by omega
      have HE := Lib.hid hE
      have hd : ¬ ((out.length : Int) < (L.length : Int)) := by omega
      clear hlt hi hE
      go_wp2_with fail
      go_ret
      exact ⟨Ao, co, out, rfl, by have h := HGL.out; rw [HE.out, List.take_length] at h; exact h, HG.out.at_, HG.out.cap, HB.out⟩
end Go.Proofs.Ytjakhemolecbnaa
end
