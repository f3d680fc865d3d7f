/-
  The texts Read, Str, Cmp of this proof in one (what is used of them): what each proves is said at its head. No conditions beyond those that each theorem says.
-/
import Derived.Test.YtjakhemolecbnaaNA2
import Derived.Test.YtjakhemolecbnaaNC3
import Derived.Test.YtjakhemolecbnaaNA

/-
  The walk of audit's Read, on any bytes.
-/
section
set_option linter.unusedVariables false
set_option linter.unusedSimpArgs false
namespace Go.Proofs.Ytjakhemolecbnaa
open Go.RowKit

section
variable {P : Program}
/-- A struct in a cell and one value more, returned. -/
theorem results_row_tmp {fn : Func} {p u : Tmp} {ty : TypeId} (h : fn.results = #[.cell p ty, .tmp u]) (tmps : Array Value) (w : World) (g : Nat) (t : TypeId) (cs : Array Value) (fr : Nat × Nat) (d : TypeDesc)
    (hp : tmps.getD p undef = .pointer (some ⟨g, 0, none⟩)) (hg : w.heap[g]? = some (.cells cs t fr))
    (hu : P.underlying ty = some d) (hd : (match d with | .struct _ | .array _ _ => true | _ => false) = true) (hi : (P.info? ty).map (·.size) = some cs.size) :
    (results fn tmps).run P w = .ok (.tuple #[.agg cs, tmps.getD u undef]) w := by
  rw [results_cell_tmp h, hp]
  simp [asAddr, run_loadVar_row w g t ty cs fr d hg hu hd hi]
end
theorem infoRec : (Try.prog.info? 24).map (·.size) = some 4 := by kernel_rfl

theorem ret_val {a b : Bool} (h : a = b) : Value.bool a = .bool b := by rw [h]
/-- A record, plain. -/
structure Rp where
  kind : Int
  tx : List UInt8
  groups : List Int
  body : List UInt8
deriving DecidableEq
def Rp.m (r : Rp) (A : Option Addr) (c : Nat) : Rm := ⟨r.kind, r.tx, A, c, r.groups, r.body⟩
def Rm.p (m : Rm) : Rp := ⟨m.kind, m.tx, m.groups, m.body⟩
def recZ : Array Value := #[.int .i64 0, .string ⟨#[]⟩, .slice none 0 0, .string ⟨#[]⟩]

/-- The groups of a record that is read, one by one. -/
def grpS (l : List UInt8) : Nat → Rs → List UInt8 × Rs
  | 0, s => ([], s)
  | j + 1, s => ((grpS l j s).1 ++ [(byteS l (grpS l j s).2).1], (byteS l (grpS l j s).2).2)
theorem grpS_length (l : List UInt8) : ∀ (j : Nat) (s : Rs), (grpS l j s).1.length = j
  | 0, _ => rfl
  | j + 1, s => by show ((grpS l j s).1 ++ [_]).length = _; rw [List.length_append, grpS_length l j s]; rfl
def finePre (k : Int) (t : List UInt8) : Bool := decide (1 ≤ k) && (decide (k ≤ 4) && (decide (t = []) == decide (k = 1)))
def fineStep (q : Bool × Int) (x : UInt8) : Bool × Int := (q.1 && (decide (q.2 < un8 x) && decide (un8 x < 3)), un8 x)
def fineOf (q : Bool) (gs : List UInt8) : Bool := (gs.foldl fineStep (q, -1)).1
/-- What a text is as a record. -/
def readS (l : List UInt8) : Option Rp :=
  if (endS l (textS l 4000 (grpS l (byteS l (textS l 4000 (byteS l ⟨0, 0, 0⟩).2).2).1.toNat (byteS l (textS l 4000 (byteS l ⟨0, 0, 0⟩).2).2).2).2).2).1 = 0 ∧ fineOf (finePre (un8 (byteS l ⟨0, 0, 0⟩).1) (textS l 4000 (byteS l ⟨0, 0, 0⟩).2).1) (grpS l (byteS l (textS l 4000 (byteS l ⟨0, 0, 0⟩).2).2).1.toNat (byteS l (textS l 4000 (byteS l ⟨0, 0, 0⟩).2).2).2).1 = true
  then some ⟨un8 (byteS l ⟨0, 0, 0⟩).1, (textS l 4000 (byteS l ⟨0, 0, 0⟩).2).1, (grpS l (byteS l (textS l 4000 (byteS l ⟨0, 0, 0⟩).2).2).1.toNat (byteS l (textS l 4000 (byteS l ⟨0, 0, 0⟩).2).2).2).1.map un8, (textS l 4000 (grpS l (byteS l (textS l 4000 (byteS l ⟨0, 0, 0⟩).2).2).1.toNat (byteS l (textS l 4000 (byteS l ⟨0, 0, 0⟩).2).2).2).2).1⟩
  else none
theorem RdAt.lower {w : World} {B B' p : Nat} {v : Value} {l : List UInt8} {s : Rs} (h : RdAt w B p v l s) (hb : B' ≤ B) : RdAt w B' p v l s := ⟨h.at_, own_lower h.own hb, h.ne, Nat.le_trans hb h.base, h.le, h.z⟩
def gvs (gs : List UInt8) : List Value := gs.map fun g => .int .i64 (un8 g)
theorem gvs_snoc (gs : List UInt8) (x : UInt8) : gvs (gs ++ [x]) = gvs gs ++ [.int .i64 (un8 x)] := by simp [gvs]

set_option maxRecDepth 100000 in
set_option maxHeartbeats 8000000 in
theorem read_any (s : List UInt8) (w : World) (hs : s.length ≤ 100000000) :
    Calls Try.prog 19 #[.string (strB s)] w fun e w' => Below w.heap.size w w' ∧
      ((readS s = none ∧ e = .returned (.tuple #[.agg recZ, .int .i64 12])) ∨
       (∃ r A c, readS s = some r ∧ e = .returned (.tuple #[.agg (r.m A c).cells.toArray, .int .i64 0]) ∧ w'.ownsRow w.heap.size 3 1 (.slice A r.groups.length c) r.groups.length (r.groups.map (Value.int .i64)))) := by
  have kc := fun W => Lib.run_convert_string_bytes (P := Try.prog) W 9 25 5 (strB s) Try.underlying9 Try.underlying25 Try.underlying5
  have hb1 : Below w.heap.size w (w.alloc (.cells recZ 24)) := (Below.refl _ _).alloc (Nat.le_refl _) _
  have hx1 := heap_alloc_new w (.cells recZ 24)
  have hz1 : w.heap.size < (w.alloc (.cells recZ 24)).heap.size := by simp
  obtain ⟨w1, hw1⟩ : ∃ w1, w1 = w.alloc (.cells recZ 24) := ⟨_, rfl⟩
  rw [← hw1] at hb1 hx1 hz1
  obtain ⟨bz, hbz⟩ : ∃ bz, bz = w.heap.size := ⟨_, rfl⟩
  have HB1 := Lib.hid hb1
  have HX1 := Lib.hid hx1
  have HW1 := Lib.hid hw1
  have HZ1 := Lib.hid hz1
  have HBZ := Lib.hid hbz
  clear hb1 hx1 hw1 hz1 hbz
  obtain ⟨R, hR⟩ : ∃ R, readS s = R := ⟨_, rfl⟩
  rw [hR]
  unfold readS at hR
  obtain ⟨kb, s1, ek⟩ : ∃ kb s1, byteS s ⟨0, 0, 0⟩ = (kb, s1) := ⟨_, _, rfl⟩
  have htl := textS_small s s1
  obtain ⟨tx, s2, et⟩ : ∃ tx s2, textS s 4000 s1 = (tx, s2) := ⟨_, _, rfl⟩
  rw [et] at htl
  obtain ⟨nb, s3, en⟩ : ∃ nb s3, byteS s s2 = (nb, s3) := ⟨_, _, rfl⟩
  obtain ⟨N, hN⟩ : ∃ N, nb.toNat = N := ⟨_, rfl⟩
  have hN1 : un8 nb = (N : Int) := by rw [← hN]; rfl
  have hN2 : N ≤ 255 := by have := nb.toNat_lt; omega
  obtain ⟨gg, s4, eg⟩ : ∃ gg s4, grpS s N s3 = (gg, s4) := ⟨_, _, rfl⟩
  obtain ⟨bd, s5, eb⟩ : ∃ bd s5, textS s 4000 s4 = (bd, s5) := ⟨_, _, rfl⟩
  obtain ⟨ew, een, ee⟩ : ∃ ew een, endS s s5 = (ew, een) := ⟨_, _, rfl⟩
  obtain ⟨f0, hf0⟩ : ∃ f0, finePre (un8 kb) tx = f0 := ⟨_, rfl⟩
  simp only [ek, et, en, hN, eg, eb, ee, hf0] at hR
  have HR := Lib.hid hR
  have EK := Lib.hid ek
  have ET := Lib.hid et
  have EN := Lib.hid en
  have HN1 := Lib.hid hN1
  have HN2 := Lib.hid hN2
  have EG := Lib.hid eg
  have EB := Lib.hid eb
  have EE := Lib.hid ee
  have HF0 := Lib.hid hf0
  have HS := Lib.hid hs
  clear hR ek et en hN hN1 hN2 eg eb ee hf0 hs htl
  have hkr := un8_range kb
  go_enter Try.func19, Try.ntmps19
  go_upto_region 1 with fail
  rw [show w.alloc (.cells #[.int .i64 0, .string ⟨#[]⟩, .slice none 0 0, .string ⟨#[]⟩] 24) = w1 from HW1.out.symm, ← HBZ.out]
  go_wp2_with fail
  refine (newReader_any _ (strB s).size _ s _ (strB_size s).symm (by rw [strB_size]; exact HS.out) (by have := bytes_RB w1 5 (strB s); rwa [strB_toList] at this) (fun h => by cases h)).mono ?_
  rintro e w2 ⟨q, vq, rfl, hw, hb⟩
  have hbb := bytes_below (Below.refl w1.heap.size w1) (Nat.le_refl _) 5 (strB s)
  have RD2 := Lib.hid ((RdAt.of_good hw (Nat.zero_le _)).lower hbb.size)
  have B2 := Lib.hid (below_below hbb hbb.size hb)
  clear hw hb hbb kc
  go_wp2_with fail
  refine (byte_g _ _ _ _ _ _ RD2.out HS.out).mono ?_
  rw [EK.out]
  rintro e w3 ⟨rfl, hw, hu⟩
  have RD3 := Lib.hid hw
  have B3 := Lib.hid (RD2.out.goes B2.out B2.out.size hu)
  clear hw hu
  go_wp2_with fail
  refine (text_g _ _ _ _ _ _ RD3.out HS.out 4000 (by omega)).mono ?_
  rw [ET.out]
  rintro e w4 ⟨rfl, hw, hu⟩
  have RD4 := Lib.hid hw
  have B4 := Lib.hid (RD3.out.goes B3.out B3.out.size hu)
  clear hw hu
  have hvl : ∀ k, vq.ownBlock = some k → k < w4.heap.size := fun k hk => (World.ownsRow.lt RD4.out.own k hk).2
  have hql := RD4.out.lt
  have hb5 : Below w4.heap.size w4 (w4.alloc (.cells #[.int .i64 (un8 kb), .string (strB tx), .slice none 0 0, .string ⟨#[]⟩] 24)) := (Below.refl _ _).alloc (Nat.le_refl _) _
  have hx5 := heap_alloc_new w4 (.cells #[.int .i64 (un8 kb), .string (strB tx), .slice none 0 0, .string ⟨#[]⟩] 24)
  have hz5 : w4.heap.size < (w4.alloc (.cells #[.int .i64 (un8 kb), .string (strB tx), .slice none 0 0, .string ⟨#[]⟩] 24)).heap.size := by simp
  obtain ⟨w5, hw5⟩ : ∃ w5, w5 = w4.alloc (.cells #[.int .i64 (un8 kb), .string (strB tx), .slice none 0 0, .string ⟨#[]⟩] 24) := ⟨_, rfl⟩
  rw [← hw5] at hb5 hx5 hz5
  have HW5 := Lib.hid hw5
  have RD5 := Lib.hid (RD4.out.below hb5)
  have B5 := Lib.hid (below_below B4.out B4.out.size hb5)
  have HX5 := Lib.hid hx5
  have hgl : w1.heap.size ≤ w4.heap.size := B4.out.size
  obtain ⟨gx, hgx⟩ : ∃ gx, gx = w4.heap.size := ⟨_, rfl⟩
  rw [← hgx] at HX5 hvl hql hz5 hgl
  have HGX := Lib.hid hgx
  have HVL := Lib.hid hvl
  have HQL := Lib.hid hql
  have HZ5 := Lib.hid hz5
  have HGL := Lib.hid hgl
  clear hw5 hb5 hx5 hgx hvl hql hz5 hgl
  go_upto_region 3 with fail
  rw [← HW5.out, ← HGX.out]
  have D0 : w5.cell? ⟨gx, 0, none⟩ = some (.int .i64 (un8 kb)) := (cell_of_row w5 gx 0 _ _ _ HX5.out).trans rfl
  have D1 : w5.cell? ⟨gx, 1, none⟩ = some (.string (strB tx)) := (cell_of_row w5 gx 1 _ _ _ HX5.out).trans rfl
  go_cut [6] (fun s6 wx => s6 = .bool f0 ∧ wx = w5)
  case first =>
    have hf := HF0.out
    unfold finePre at hf
    by_cases h1 : 1 ≤ un8 kb
    · by_cases h4 : un8 kb ≤ 4
      · rw [decide_eq_true h1, decide_eq_true h4, Bool.true_and, Bool.true_and] at hf
        have HF := Lib.hid (show ((strB tx).toList.isEmpty == (un8 kb == 1)) = f0 by
          rw [← hf, ByteArray.toList_eq, strB_toList]
          have h1 : tx.isEmpty = decide (tx = []) := by cases tx <;> simp
          have h2 : (un8 kb == 1) = decide (un8 kb = 1) := by by_cases h : un8 kb = 1 <;> simp [h]
          rw [h1, h2])
        clear hf
        go_wp2_with fail
        go_meet
        exact ⟨ret_val HF.out, rfl⟩
      · have HF := Lib.hid (show false = f0 by rw [← hf]; simp [h4])
        clear hf
        go_wp2_with fail
        go_meet
        exact ⟨ret_val HF.out, rfl⟩
    · have HF := Lib.hid (show false = f0 by rw [← hf]; simp [h1])
      clear hf
      go_wp2_with fail
      go_meet
      exact ⟨ret_val HF.out, rfl⟩
  case rest =>
    obtain ⟨rfl, hwx⟩ := hcut
    have hwx2 := hwx.symm
    clear hwx
    subst hwx2
    clear D0 D1
    go_wp2_with fail
    refine (byte_g _ _ _ _ _ _ RD5.out HS.out).mono ?_
    rw [EN.out]
    dsimp only
    rw [HN1.out]
    rintro e w6 ⟨rfl, hw, hu⟩
    have RD6 := Lib.hid hw
    have B6 := Lib.hid (RD5.out.goes B5.out B5.out.size hu)
    have HX6 := Lib.hid ((hu.block gx (by have := HZ5.out; omega) (by have := HQL.out; omega)).trans HX5.out)
    have HZ6 := Lib.hid (show gx < w6.heap.size from Nat.lt_of_lt_of_le HZ5.out hu.size)
    clear hw hu
    have hn0 : (N : Int) ≤ 255 := by have := HN2.out; omega
    go_wp2_with fail
    go_loopg [6,7,8,9] N (fun k s6 s7 s8 s9 wr => ∃ (j : Nat) (gs : List UInt8) (st : Rs) (vg : Value), j ≤ N ∧ k = N - j ∧ grpS s j s3 = (gs, st) ∧ s6 = .bool (gs.foldl fineStep (f0, -1)).1 ∧ s7 = .int .i64 (gs.foldl fineStep (f0, -1)).2 ∧ s8 = .int .i64 ((N : Int) - (j : Int)) ∧ RdAt wr w1.heap.size q vq s st ∧ wr.heap[gx]? = some (.cells #[.int .i64 (un8 kb), .string (strB tx), vg, .string ⟨#[]⟩] 24 (0, 0)) ∧ wr.ownsRow w6.heap.size 3 1 vg j (gvs gs) ∧ Below w1.heap.size w1 wr ∧ w6.heap.size ≤ wr.heap.size)
    case atStart => exact ⟨0, [], s3, _, Nat.zero_le _, by omega, rfl, rfl, rfl, by simp, RD6.out, HX6.out, World.ownsRow_nil _ _ _ _, B6.out, Nat.le_refl _⟩
    case round =>
      obtain ⟨j, gs, st, vg, hj, hk, hgs, rfl, rfl, rfl, hrd, hbx, how, hb, hsz⟩ := hrel
      obtain ⟨A, c, rfl, hjc⟩ := own_slice how
      obtain ⟨fb, fl, hfl⟩ : ∃ fb fl, gs.foldl fineStep (f0, -1) = (fb, fl) := ⟨_, _, rfl⟩
      rw [hfl]
      dsimp only
      have HK := Lib.hid hk
      have HGS := Lib.hid hgs
      have HRD := Lib.hid hrd
      have HBX := Lib.hid hbx
      have HOW := Lib.hid how
      have HB := Lib.hid hb
      have HSZ := Lib.hid hsz
      have HFL := Lib.hid hfl
      have HJC := Lib.hid hjc
      clear hk hgs hrd hbx how hb hsz hfl hjc
      by_cases hlt : j < N
      · have hp0 : (0 : Int) < (N : Int) - (j : Int) := by omega
        obtain ⟨x, st', ex⟩ : ∃ x st', byteS s st = (x, st') := ⟨_, _, rfl⟩
        have EX := Lib.hid ex
        have HG2 := Lib.hid (show grpS s (j + 1) s3 = (gs ++ [x], st') by
          show ((grpS s j s3).1 ++ [(byteS s (grpS s j s3).2).1], (byteS s (grpS s j s3).2).2) = _
          rw [HGS.out]
          dsimp only
          rw [ex])
        have HF2 := Lib.hid (show (gs ++ [x]).foldl fineStep (f0, -1) = (fb && (decide (fl < un8 x) && decide (un8 x < 3)), un8 x) by
          rw [List.foldl_append, HFL.out]
          rfl)
        have hxr := un8_range x
        have HLT := Lib.hid hlt
        clear ex hlt hj
        go_wp2_with fail
        refine (byte_g _ _ _ _ _ _ HRD.out HS.out).mono ?_
        rw [EX.out]
        rintro e w7 ⟨rfl, hw, hu⟩
        have RD7 := Lib.hid hw
        have B7 := Lib.hid (HRD.out.goes HB.out HB.out.size hu)
        have HX7 := Lib.hid ((hu.block gx (by have := HZ6.out; have := HSZ.out; omega) (by have := HQL.out; omega)).trans HBX.out)
        have HO7 := Lib.hid (own_upd HOW.out hu (fun k hk e => by have := (World.ownsRow.lt HOW.out k hk).1; have := HQL.out; have := HZ6.out; omega))
        have HS7 := Lib.hid (Nat.le_trans HSZ.out hu.size)
        clear hw hu
        dsimp only
        go_upto_region 9 with fail
        go_cut [6] (fun s6 wx => s6 = .bool (fb && (decide (fl < un8 x) && decide (un8 x < 3))) ∧ wx = w7)
        case first =>
          cases fb with
          | false =>
            go_wp2_with fail
            go_meet
            exact ⟨rfl, rfl⟩
          | true =>
            by_cases h1 : fl < un8 x
            · have HD := Lib.hid (show decide (un8 x < 3) = (true && (decide (fl < un8 x) && decide (un8 x < 3))) by simp [h1])
              go_wp2_with fail
              go_meet
              exact ⟨ret_val HD.out, rfl⟩
            · have HD := Lib.hid (show false = (true && (decide (fl < un8 x) && decide (un8 x < 3))) by simp [h1])
              go_wp2_with fail
              go_meet
              exact ⟨ret_val HD.out, rfl⟩
        case rest =>
          obtain ⟨rfl, hwx⟩ := hcut
          have hwx2 := hwx.symm
          clear hwx
          subst hwx2
          obtain ⟨fb', hfb'⟩ : ∃ fb', (fb && (decide (fl < un8 x) && decide (un8 x < 3))) = fb' := ⟨_, rfl⟩
          rw [hfb'] at HF2 ⊢
          clear hfb'
          have D2 : w7.cell? ⟨gx, 2, none⟩ = some (.slice A j c) := (cell_of_row w7 gx 2 _ _ _ HX7.out).trans rfl
          have D2a : ∀ ob, (w7.alloc ob).cell? ⟨gx, 2, none⟩ = some (.slice A j c) := fun ob => Lib.cell?_alloc_some ob D2
          go_upto_region 11 with fail
          go_wp2_with (at_builtin; refine append_any rfl (.tmp 57) (.tmp 59) 22 rfl w6.heap.size 3 (.int .i64 0) 1 8 Try.underlying22 infoI rfl (by omega) (by omega) _ j (gvs gs) rfl (HO7.out.alloc _) _ 1 1 [.int .i64 (un8 x)] rfl rfl (RC_newL _ [.int .i64 (un8 x)] 3) (by intro u hu; simp at hu; rw [hu]; rfl) ?c1 ?c2 ?_)
          case c1 => have := HLT.out; have := HN2.out; omega
          case c2 => have := HS7.out; simp; omega
          intro v8 w8 ho8 hg8 hat8
          have hu8 : Upd (fun k => (Value.slice A j c).ownBlock = some k) w7 w8 := ((Upd.refl _ w7).alloc _).grown hg8 (fun k hk _ => hk)
          have hnb : ∀ k, (Value.slice A j c).ownBlock = some k → w6.heap.size ≤ k := fun k hk => (World.ownsRow.lt HO7.out k hk).1
          have RD8 := Lib.hid (RD7.out.upd hu8 (fun e => by have := hnb _ e; have := HZ6.out; have := HQL.out; omega) (fun k hk e => by have := hnb _ e; have := HVL.out k hk; have := HZ6.out; omega))
          have hs8 : w7.heap.size ≤ w8.heap.size := hu8.size
          have B8 := Lib.hid (below_upd B7.out B7.out.size hu8 (fun k hk => by have := hnb k hk; have := HGL.out; have := HZ6.out; omega))
          have HX8 := Lib.hid ((hu8.block gx (by have := HZ6.out; have := HS7.out; omega) (fun e => by have := hnb _ e; have := HZ6.out; omega)).trans HX7.out)
          have HO8 := Lib.hid (show w8.ownsRow w6.heap.size 3 1 v8 (j + 1) (gvs (gs ++ [x])) by rw [gvs_snoc]; exact ho8)
          have HS8 := Lib.hid (Nat.le_trans HS7.out hs8)
          obtain ⟨A8, c8, rfl, _⟩ := own_slice ho8
          have f2 : w8.frozen? ⟨gx, 2, none⟩ = false := frozen_of_row w8 gx 2 _ _ HX8.out
          have d2 : w8.cell? ⟨gx, 2, none⟩ = some (.slice A j c) := (cell_of_row w8 gx 2 _ _ _ HX8.out).trans rfl
          have hu9 : Upd (fun k => k = gx) w8 (w8.setCell ⟨gx, 2, none⟩ (.slice A8 (j + 1) c8)) := (Upd.refl (fun k => k = gx) w8).setCell (p := ⟨gx, 2, none⟩) (fun _ => rfl) _
          have HU9 := Lib.hid hu9
          clear ho8 hg8 hat8 hu8 hnb hs8 hu9 D2 D2a
          go_wp2_with fail
          go_roundg (N - (j + 1))
          case measure => have := HK.out; have := HLT.out; omega
          case rel =>
            refine ⟨j + 1, gs ++ [x], st', .slice A8 (j + 1) c8, HLT.out, rfl, HG2.out, by rw [HF2.out], by rw [HF2.out], by go_num, ?_, ?_, ?_, ?_, ?_⟩
            · exact RD8.out.upd HU9.out (by have := HQL.out; omega) (fun k hk e => by have := HVL.out k hk; omega)
            · rw [setCell_at HX8.out _]; rfl
            · exact own_upd HO8.out HU9.out (fun k hk e => by have := (World.ownsRow.lt HO8.out k hk).1; have := HZ6.out; omega)
            · exact below_upd B8.out B8.out.size HU9.out (fun k hk => by rw [hk]; exact HGL.out)
            · exact Nat.le_trans HS8.out HU9.out.size
      · obtain rfl : j = N := by omega
        have hgg : gs = gg ∧ st = s4 := by
          have := HGS.out.symm.trans EG.out
          simpa using this
        obtain ⟨rfl, rfl⟩ := hgg
        have HRR := Lib.hid (show (if ew = 0 ∧ fb = true then some (⟨un8 kb, tx, gs.map un8, bd⟩ : Rp) else none) = R by
          have h := HR.out
          unfold fineOf at h
          rw [HFL.out] at h
          exact h)
        have hgl : gs.length = j := by have := grpS_length s j s3; rw [HGS.out] at this; exact this
        have HGLN := Lib.hid hgl
        clear hlt hj hgl
        go_wp2_with fail
        refine (text_g _ _ _ _ _ _ HRD.out HS.out 4000 (by omega)).mono ?_
        rw [EB.out]
        rintro e w7 ⟨rfl, hw, hu⟩
        have RD7 := Lib.hid hw
        have B7 := Lib.hid (HRD.out.goes HB.out HB.out.size hu)
        have HX7 := Lib.hid ((hu.block gx (by have := HZ6.out; have := HSZ.out; omega) (by have := HQL.out; omega)).trans HBX.out)
        have HO7 := Lib.hid (own_upd HOW.out hu (fun k hk e => by have := (World.ownsRow.lt HOW.out k hk).1; have := HQL.out; have := HZ6.out; omega))
        have HS7 := Lib.hid (Nat.le_trans HSZ.out hu.size)
        clear hw hu
        dsimp only
        have f3 : w7.frozen? ⟨gx, 3, none⟩ = false := frozen_of_row w7 gx 3 _ _ HX7.out
        have d3 : w7.cell? ⟨gx, 3, none⟩ = some (.string ⟨#[]⟩) := (cell_of_row w7 gx 3 _ _ _ HX7.out).trans rfl
        have hu8 : Upd (fun k => k = gx) w7 (w7.setCell ⟨gx, 3, none⟩ (.string (strB bd))) := (Upd.refl (fun k => k = gx) w7).setCell (p := ⟨gx, 3, none⟩) (fun _ => rfl) _
        have hx8 : (w7.setCell ⟨gx, 3, none⟩ (.string (strB bd))).heap[gx]? = some (.cells #[.int .i64 (un8 kb), .string (strB tx), .slice A j c, .string (strB bd)] 24 (0, 0)) := by rw [setCell_at HX7.out _]; rfl
        obtain ⟨w8, hw8⟩ : ∃ w8, w8 = w7.setCell ⟨gx, 3, none⟩ (.string (strB bd)) := ⟨_, rfl⟩
        rw [← hw8] at hu8 hx8
        have RD8 := Lib.hid (RD7.out.upd hu8 (by have := HQL.out; omega) (fun k hk e => by have := HVL.out k hk; omega))
        have B8 := Lib.hid (below_upd B7.out B7.out.size hu8 (fun k hk => by rw [hk]; exact HGL.out))
        have HO8 := Lib.hid (own_upd HO7.out hu8 (fun k hk e => by have := (World.ownsRow.lt HO7.out k hk).1; have := HZ6.out; omega))
        have HX8 := Lib.hid hx8
        have HW8 := Lib.hid hw8
        have HS8 := Lib.hid (Nat.le_trans HS7.out hu8.size)
        clear hu8 hx8 hw8
        go_upto_region 13 with fail
        rw [← HW8.out]
        clear f3 d3
        go_wp2_with fail
        refine (end_g _ _ _ _ _ _ RD8.out HS.out).mono ?_
        rw [EE.out]
        rintro e w9 ⟨rfl, hu⟩
        have B9 := Lib.hid (RD8.out.goes B8.out B8.out.size hu)
        have HX9 := Lib.hid ((hu.block gx (by have := HZ6.out; have := HS8.out; omega) (by have := HQL.out; omega)).trans HX8.out)
        have HO9 := Lib.hid (own_upd HO8.out hu (fun k hk e => by have := (World.ownsRow.lt HO8.out k hk).1; have := HQL.out; have := HZ6.out; omega))
        clear hu
        have HXZ := Lib.hid (show w9.heap[bz]? = some (.cells recZ 24 (0, 0)) from (B9.out.block bz (by rw [HBZ.out]; exact HZ1.out)).trans (by rw [HBZ.out]; exact HX1.out))
        have z0 := frozen_of_row w9 bz 0 _ _ HXZ.out
        have z1 := frozen_of_row w9 bz 1 _ _ HXZ.out
        have z2 := frozen_of_row w9 bz 2 _ _ HXZ.out
        have z3 := frozen_of_row w9 bz 3 _ _ HXZ.out
        have y0 : w9.cell? ⟨bz, 0, none⟩ = some (.int .i64 0) := (cell_of_row w9 bz 0 _ _ _ HXZ.out).trans rfl
        have y1 : w9.cell? ⟨bz, 1, none⟩ = some (.string ⟨#[]⟩) := (cell_of_row w9 bz 1 _ _ _ HXZ.out).trans rfl
        have y2 : w9.cell? ⟨bz, 2, none⟩ = some (.slice none 0 0) := (cell_of_row w9 bz 2 _ _ _ HXZ.out).trans rfl
        have y3 : w9.cell? ⟨bz, 3, none⟩ = some (.string ⟨#[]⟩) := (cell_of_row w9 bz 3 _ _ _ HXZ.out).trans rfl
        have HFIN := Lib.hid (show ∀ v0 v1 v2 v3 W, W = (((w9.setCell ⟨bz, 0, none⟩ v0).setCell ⟨bz, 1, none⟩ v1).setCell ⟨bz, 2, none⟩ v2).setCell ⟨bz, 3, none⟩ v3 → W.heap[bz]? = some (.cells #[v0, v1, v2, v3] 24 (0, 0)) ∧ Upd (fun k => k = bz) w9 W from by
          rintro v0 v1 v2 v3 W rfl
          refine ⟨?_, ((((Upd.refl (fun k => k = bz) w9).setCell (p := ⟨bz, 0, none⟩) (fun _ => rfl) _).setCell (p := ⟨bz, 1, none⟩) (fun _ => rfl) _).setCell (p := ⟨bz, 2, none⟩) (fun _ => rfl) _).setCell (p := ⟨bz, 3, none⟩) (fun _ => rfl) _⟩
          rw [setCell_at (setCell_at (setCell_at (setCell_at HXZ.out _) _) _) _]
          rfl)
        have HBW := Lib.hid (show Below w.heap.size w w9 from below_below HB1.out HB1.out.size B9.out)
        by_cases hok : ew = 0 ∧ fb = true
        · obtain ⟨rfl, rfl⟩ := hok
          have HRS := Lib.hid (HRR.out.symm.trans (if_pos ⟨rfl, rfl⟩))
          have x0 : w9.cell? ⟨gx, 0, none⟩ = some (.int .i64 (un8 kb)) := (cell_of_row w9 gx 0 _ _ _ HX9.out).trans rfl
          have x1 : w9.cell? ⟨gx, 1, none⟩ = some (.string (strB tx)) := (cell_of_row w9 gx 1 _ _ _ HX9.out).trans rfl
          have x2 : w9.cell? ⟨gx, 2, none⟩ = some (.slice A j c) := (cell_of_row w9 gx 2 _ _ _ HX9.out).trans rfl
          have x3 : w9.cell? ⟨gx, 3, none⟩ = some (.string (strB bd)) := (cell_of_row w9 gx 3 _ _ _ HX9.out).trans rfl
          go_wp2_with fail
          try simp only [Exit.inBlock, Exit.then]
          obtain ⟨hf1, hf2⟩ := HFIN.out _ _ _ _ _ rfl
          refine bodyPost_ret (v := .tuple #[.agg #[.int .i64 (un8 kb), .string (strB tx), .slice A j c, .string (strB bd)], .int .i64 0]) ?_ rfl ?_
          · refine Eq.trans (results_row_tmp rfl _ _ bz 24 _ (0, 0) _ rfl hf1 Try.underlying24 rfl infoRec) ?_
            rfl
          · refine ⟨below_upd HBW.out HBW.out.size hf2 (fun k hk => by rw [hk, HBZ.out]; exact Nat.le_refl _), .inr ⟨⟨un8 kb, tx, gs.map un8, bd⟩, A, c, HRS.out, ?_, ?_⟩⟩
            · simp only [Rp.m, Rm.cells, List.length_map, HGLN.out]
            · have h := own_upd HO9.out hf2 (fun k hk e => by have := (World.ownsRow.lt HO9.out k hk).1; have := HBZ.out; have := HZ1.out; have := HGL.out; have := HZ6.out; omega)
              have h2 := own_lower h (show w.heap.size ≤ w6.heap.size by have := HZ1.out; have := HGL.out; have := HZ6.out; omega)
              simp only [List.length_map, HGLN.out, List.map_map]
              exact h2
        · have HRS := Lib.hid (HRR.out.symm.trans (if_neg hok))
          by_cases hew : ew = 0
          · subst hew
            have hfb : fb = false := by
              cases fb with
              | false => rfl
              | true => exact absurd ⟨rfl, rfl⟩ hok
            subst hfb
            clear hok
            go_wp2_with fail
            try simp only [Exit.inBlock, Exit.then]
            obtain ⟨hf1, hf2⟩ := HFIN.out _ _ _ _ _ rfl
            refine bodyPost_ret (v := .tuple #[.agg recZ, .int .i64 12]) ?_ rfl ?_
            · refine Eq.trans (results_row_tmp rfl _ _ bz 24 _ (0, 0) _ rfl hf1 Try.underlying24 rfl infoRec) ?_
              rfl
            · exact ⟨below_upd HBW.out HBW.out.size hf2 (fun k hk => by rw [hk, HBZ.out]; exact Nat.le_refl _), .inl ⟨HRS.out, rfl⟩⟩
          · have hne : (ew != 0) = true := by simpa using hew
            clear hok hew
            go_wp2_with fail
            try simp only [Exit.inBlock, Exit.then]
            obtain ⟨hf1, hf2⟩ := HFIN.out _ _ _ _ _ rfl
            refine bodyPost_ret (v := .tuple #[.agg recZ, .int .i64 12]) ?_ rfl ?_
            · refine Eq.trans (results_row_tmp rfl _ _ bz 24 _ (0, 0) _ rfl hf1 Try.underlying24 rfl infoRec) ?_
              rfl
            · exact ⟨below_upd HBW.out HBW.out.size hf2 (fun k hk => by rw [hk, HBZ.out]; exact Nat.le_refl _), .inl ⟨HRS.out, rfl⟩⟩
end Go.Proofs.Ytjakhemolecbnaa
end

/-
  The test of strange, and whether a row of records holds one that passes it.
-/
section
set_option linter.unusedVariables false
set_option linter.unusedSimpArgs false
namespace Go.Proofs.Ytjakhemolecbnaa
open Go.RowKit

/-- The record that the test of strange has captured: its transaction and its groups. -/
structure StAt (w : World) (g : Nat) (s : List UInt8) (gA : Option Addr) (gc : Nat) (zs : List Int) : Prop where
  c1 : w.cell? ⟨g, 1, none⟩ = some (.string (strB s))
  c2 : w.cell? ⟨g, 2, none⟩ = some (.slice gA zs.length gc)
  r : RG w gA zs
theorem StAt.below {w w' : World} {g : Nat} {s : List UInt8} {gA : Option Addr} {gc : Nat} {zs : List Int} (h : StAt w g s gA gc zs) (hb : Below w.heap.size w w') : StAt w' g s gA gc zs := ⟨cell_below hb h.c1, cell_below hb h.c2, h.r.below hb⟩

set_option maxHeartbeats 2000000 in
theorem str1_any (g : Nat) (s : List UInt8) (gA : Option Addr) (gc : Nat) (zs : List Int) (m : Rm) (w : World) (h : StAt w g s gA gc zs) (hm : RG w m.A m.groups) (hml : m.groups.length ≤ 100000000) :
    Calls Try.prog 56 #[.agg m.cells.toArray, .pointer (some ⟨g, 0, none⟩)] w fun e w' => e = .returned (.bool (strP s zs m)) ∧ Below w.heap.size w w' := by
  obtain ⟨mk, mt, mA, mc, mg, mb⟩ := m
  unfold strP Rm.cells
  dsimp only at hm hml ⊢
  have h1a : ∀ ob, (w.alloc ob).cell? ⟨g, 1, none⟩ = some (.string (strB s)) := fun ob => Lib.cell?_alloc_some ob h.c1
  have h2a : ∀ ob, (w.alloc ob).cell? ⟨g, 2, none⟩ = some (.slice gA zs.length gc) := fun ob => Lib.cell?_alloc_some ob h.c2
  have HR := Lib.hid h.r
  have HM := Lib.hid hm
  clear h hm
  by_cases hk : mk = 3
  · subst hk
    by_cases hs : mt = s
    · subst hs
      have HZF := Lib.hid (show (!decide (mg = zs)) = decide ((3 : Int) = 3 ∧ mt = mt ∧ mg ≠ zs) by by_cases h : mg = zs <;> simp [h])
      rw [← HZF.out]
      generalize strB mt = z at *
      generalize strB mb = y
      obtain ⟨q, hq⟩ : ∃ q, decide (mg = zs) = q := ⟨_, rfl⟩
      rw [hq]
      have HQ := Lib.hid hq
      clear hq HZF
      go_enter Try.func56, Try.ntmps56
      go_wp2_with fail
      refine (equal_any mA gA mg.length zs.length mc gc mg zs _ rfl rfl hml (HM.out.below ((Below.refl _ _).alloc (Nat.le_refl _) _)) (HR.out.below ((Below.refl _ _).alloc (Nat.le_refl _) _))).mono ?_
      rw [HQ.out]
      rintro e w1 ⟨rfl, hb⟩
      have HB := Lib.hid (below_below ((Below.refl _ _).alloc (Nat.le_refl _) _) (by simp) hb)
      clear hb
      go_wp2_with fail
      go_ret
      exact ⟨rfl, HB.out⟩
    · have HZF := Lib.hid (show ((strB mt).toList == (strB s).toList) = false by rw [ByteArray.toList_eq, ByteArray.toList_eq, strB_toList, strB_toList]; simpa using hs)
      have hd : decide ((3 : Int) = 3 ∧ mt = s ∧ mg ≠ zs) = false := by simp [hs]
      rw [hd]
      generalize strB mt = z1 at *
      generalize strB s = z2 at *
      generalize strB mb = y
      have hzf := HZF.out
      clear hd hs
      go_enter Try.func56, Try.ntmps56
      go_wp2_with fail
      go_ret
      exact ⟨rfl, (Below.refl _ _).alloc (Nat.le_refl _) _⟩
  · have hd : decide (mk = 3 ∧ mt = s ∧ mg ≠ zs) = false := by simp [hk]
    rw [hd]
    have hk1 : (mk == 3) = false := by simpa using hk
    generalize strB mt = z1 at *
    generalize strB s = z2 at *
    generalize strB mb = y
    clear hd hk
    go_enter Try.func56, Try.ntmps56
    go_wp2_with fail
    go_ret
    exact ⟨rfl, (Below.refl _ _).alloc (Nat.le_refl _) _⟩

set_option maxHeartbeats 4000000 in
/-- Whether a row of records holds one that passes the test of strange. -/
theorem indexSt_any (A : Option Addr) (n c : Nat) (l : List Rm) (g : Nat) (s : List UInt8) (gA : Option Addr) (gc : Nat) (zs : List Int) (w : World) (hl : l.length = n) (hn : n ≤ 100000000) (hr : RC w A (rmc l)) (h1 : StAt w g s gA gc zs) (h2 : ∀ m ∈ l, RG w m.A m.groups ∧ m.groups.length ≤ 100000000) :
    Calls Try.prog 88 #[.slice A n c, .func (.func 56) #[] #[.pointer (some ⟨g, 0, none⟩)]] w fun e w' => (∃ r : Int, e = .returned (.int .i64 r) ∧ (0 ≤ r ↔ l.any (strP s zs) = true)) ∧ Below w.heap.size w w' := by
  subst hl
  have HR := Lib.hid hr
  have H1 := Lib.hid h1
  have H2 := Lib.hid h2
  clear hr h1 h2
  go_enter Try.func88, Try.ntmps88
  go_wp2_with fail
  go_loopg [8] l.length (fun gk s8 wr => ∃ i : Nat, i ≤ l.length ∧ gk = l.length - i ∧ s8 = .int .i64 (i : Int) ∧ (∀ j (h : j < l.length), j < i → strP s zs l[j] = false) ∧ Below w.heap.size w wr)
  case atStart => exact ⟨0, Nat.zero_le _, by omega, rfl, fun j _ hj => absurd hj (Nat.not_lt_zero _), Below.refl _ _⟩
  case round =>
    obtain ⟨i, hi, hk, rfl, hz, hb⟩ := hrel
    have HK := Lib.hid hk
    have HZ := Lib.hid hz
    have HB := Lib.hid hb
    clear hk hz hb
    by_cases hlt : i < l.length
    · obtain ⟨b, o, rfl, hc⟩ := RC.part HR.out (by rw [rmc_length]; omega)
      have hg := rmc_get l i hlt
      have q0 := cell_below HB.out (hc _ _ hg.1)
      have q1 := cell_below HB.out (hc _ _ hg.2.1)
      have q2 := cell_below HB.out (hc _ _ hg.2.2.1)
      have q3 := cell_below HB.out (hc _ _ hg.2.2.2)
      rw [← Nat.add_assoc] at q1 q2 q3
      obtain ⟨m, em⟩ : ∃ m, m = l[i] := ⟨_, rfl⟩
      rw [← em] at q0 q1 q2 q3
      have EM := Lib.hid em
      have HLT := Lib.hid hlt
      have i0 : (0 : Int) ≤ (i : Int) := by omega
      have i1 : (i : Int) < (l.length : Int) := by omega
      obtain ⟨mk, mt, mA, mc, mg, mb⟩ := m
      dsimp only at q0 q1 q2 q3
      obtain ⟨z1, hz1⟩ : ∃ z1, z1 = strB mt := ⟨_, rfl⟩
      obtain ⟨z2, hz2⟩ : ∃ z2, z2 = strB mb := ⟨_, rfl⟩
      rw [← hz1] at q1
      rw [← hz2] at q3
      have HQ := Lib.hid (show (⟨mk, mt, mA, mc, mg, mb⟩ : Rm).cells.toArray = #[.int .i64 mk, .string z1, .slice mA mg.length mc, .string z2] by rw [hz1, hz2]; rfl)
      clear hc hg em hi hz1 hz2
      go_wp2_with fail
      rw [← HQ.out]
      refine (str1_any g s gA gc zs ⟨mk, mt, mA, mc, mg, mb⟩ wr (H1.out.below HB.out) (by have h := H2.out _ (List.getElem_mem HLT.out); rw [← EM.out] at h; exact h.1.below HB.out) (by have h := H2.out _ (List.getElem_mem HLT.out); rw [← EM.out] at h; exact h.2)).mono ?_
      obtain ⟨q, hq⟩ : ∃ q, strP s zs ⟨mk, mt, mA, mc, mg, mb⟩ = q := ⟨_, rfl⟩
      rw [hq]
      rintro e w1 ⟨rfl, hb1⟩
      have HB1 := Lib.hid (below_below HB.out HB.out.size hb1)
      have HQ2 := Lib.hid (show strP s zs (l[i]'HLT.out) = q by rw [← EM.out]; exact hq)
      rw [HQ.out]
      clear hb1 hq q0 q1 q2 q3
      cases q with
      | true =>
        go_wp2_with fail
        go_ret
        exact ⟨⟨_, rfl, fun _ => List.any_eq_true.2 ⟨_, List.getElem_mem HLT.out, HQ2.out⟩, fun _ => by omega⟩, HB1.out⟩
      | false =>
        go_wp2_with fail
        go_roundg (l.length - (i + 1))
        case measure => have := HK.out; have := HLT.out; omega
        case rel =>
          refine ⟨i + 1, HLT.out, rfl, by go_num, fun j hj hji => ?_, HB1.out⟩
          by_cases h : j = i
          · subst h
            exact HQ2.out
          · exact HZ.out j hj (by omega)
    · obtain rfl : i = l.length := by omega
      go_wp2_with fail
      go_ret
      refine ⟨⟨_, rfl, fun h => absurd h (by omega), fun h => ?_⟩, HB.out⟩
      obtain ⟨m, hm, e⟩ := List.any_eq_true.1 h
      obtain ⟨j, hj, e2⟩ := List.getElem_of_mem hm
      have := HZ.out j hj hj
      rw [e2, e] at this
      cases this

set_option maxHeartbeats 1000000 in
theorem containsSt_any (A : Option Addr) (n c : Nat) (l : List Rm) (g : Nat) (s : List UInt8) (gA : Option Addr) (gc : Nat) (zs : List Int) (w : World) (hl : l.length = n) (hn : n ≤ 100000000) (hr : RC w A (rmc l)) (h1 : StAt w g s gA gc zs) (h2 : ∀ m ∈ l, RG w m.A m.groups ∧ m.groups.length ≤ 100000000) :
    Calls Try.prog 76 #[.slice A n c, .func (.func 56) #[] #[.pointer (some ⟨g, 0, none⟩)]] w fun e w' => e = .returned (.bool (l.any (strP s zs))) ∧ Below w.heap.size w w' := by
  have HR := Lib.hid hr
  have H1 := Lib.hid h1
  have H2 := Lib.hid h2
  clear hr h1 h2
  go_enter Try.func76, Try.ntmps76
  go_wp2_with fail
  refine (indexSt_any A n c l g s gA gc zs w hl hn HR.out H1.out H2.out).mono ?_
  rintro e w1 ⟨⟨r, rfl, hr⟩, hb⟩
  have HB := Lib.hid hb
  have HD := Lib.hid (show decide (0 ≤ r) = l.any (strP s zs) by
    cases h : l.any (strP s zs) with
    | true => exact decide_eq_true (hr.2 h)
    | false => exact decide_eq_false fun h2 => by rw [hr.1 h2] at h; cases h)
  clear hr hb
  go_wp2_with fail
  go_ret
  exact ⟨ret_bool HD.out, HB.out⟩
end Go.Proofs.Ytjakhemolecbnaa
end

/-
  The walks of cmp.Compare and cmp.Or at ints.
-/
section
set_option linter.unusedVariables false
set_option linter.unusedSimpArgs false
namespace Go.Proofs.Ytjakhemolecbnaa
open Go.RowKit

def sgnOf (x y : Int) : Int := if x < y then -1 else if y < x then 1 else 0
def orOf (a b c : Int) : Int := if a ≠ 0 then a else if b ≠ 0 then b else c

set_option maxHeartbeats 400000 in
theorem isNaN_any (x : Int) (w : World) : Calls Try.prog 79 #[.int .i64 x] w fun e w' => e = .returned (.bool false) ∧ w = w' := by
  go_enter Try.func79, Try.ntmps79
  go_wp2
  go_ret
  exact ⟨by simp, rfl⟩

set_option maxHeartbeats 1000000 in
theorem compare_any (x y : Int) (w : World) : Calls Try.prog 59 #[.int .i64 x, .int .i64 y] w fun e w' => e = .returned (.int .i64 (sgnOf x y)) ∧ w = w' := by
  unfold sgnOf
  by_cases h1 : x < y
  · rw [if_pos h1]
    go_enter Try.func59, Try.ntmps59
    go_wp2_with fail
    refine (isNaN_any x w).mono ?_
    rintro e w1 ⟨rfl, rfl⟩
    go_wp2_with fail
    refine (isNaN_any y w).mono ?_
    rintro e w1 ⟨rfl, rfl⟩
    go_wp2_with fail
    go_ret
    exact ⟨rfl, rfl⟩
  · rw [if_neg h1]
    by_cases h2 : y < x
    · rw [if_pos h2]
      go_enter Try.func59, Try.ntmps59
      go_wp2_with fail
      refine (isNaN_any x w).mono ?_
      rintro e w1 ⟨rfl, rfl⟩
      go_wp2_with fail
      refine (isNaN_any y w).mono ?_
      rintro e w1 ⟨rfl, rfl⟩
      go_wp2_with fail
      go_ret
      exact ⟨rfl, rfl⟩
    · rw [if_neg h2]
      go_enter Try.func59, Try.ntmps59
      go_wp2_with fail
      refine (isNaN_any x w).mono ?_
      rintro e w1 ⟨rfl, rfl⟩
      go_wp2_with fail
      refine (isNaN_any y w).mono ?_
      rintro e w1 ⟨rfl, rfl⟩
      go_wp2_with fail
      go_ret
      exact ⟨rfl, rfl⟩

set_option maxRecDepth 100000 in
set_option maxHeartbeats 2000000 in
theorem or_any (g : Nat) (a b c : Int) (w : World) (h0 : w.cell? ⟨g, 0, none⟩ = some (.int .i64 a)) (h1 : w.cell? ⟨g, 1, none⟩ = some (.int .i64 b)) (h2 : w.cell? ⟨g, 2, none⟩ = some (.int .i64 c)) :
    Calls Try.prog 58 #[.slice (some ⟨g, 0, none⟩) 3 3] w fun e w' => e = .returned (.int .i64 (orOf a b c)) ∧ w = w' := by
  have HO := Lib.hid (show ∀ i : Nat, i < 3 → ∃ z, w.cell? ⟨g, i, none⟩ = some (.int .i64 z) ∧ [a, b, c][i]? = some z from fun i hi => by
    match i, hi with
    | 0, _ => exact ⟨a, h0, rfl⟩
    | 1, _ => exact ⟨b, h1, rfl⟩
    | 2, _ => exact ⟨c, h2, rfl⟩)
  clear h0 h1 h2
  go_enter Try.func58, Try.ntmps58
  go_wp2_with fail
  go_loopg [8] 3 (fun k s8 wr => ∃ i : Nat, i ≤ 3 ∧ k = 3 - i ∧ s8 = .int .i64 (i : Int) ∧ (∀ j z, j < i → [a, b, c][j]? = some z → z = 0) ∧ wr = w)
  case atStart => exact ⟨0, by omega, by omega, rfl, fun j z hj => absurd hj (Nat.not_lt_zero _), rfl⟩
  case round =>
    obtain ⟨i, hi, hk, rfl, hz, rfl⟩ := hrel
    have HK := Lib.hid hk
    have HZ := Lib.hid hz
    clear hk hz
    by_cases hlt : i < 3
    · obtain ⟨z, hc, hg⟩ := HO.out i hlt
      have HG := Lib.hid hg
      have HLT := Lib.hid hlt
      clear hg
      have i0 : (0 : Int) ≤ (i : Int) := by omega
      have i1 : (i : Int) < 3 := by omega
      by_cases hz0 : z = 0
      · subst hz0
        go_wp2_with fail
        go_roundg (3 - (i + 1))
        case measure => have := HK.out; have := HLT.out; omega
        case rel =>
          refine ⟨i + 1, HLT.out, rfl, by go_num, fun j z hj e => ?_, rfl⟩
          by_cases hji : j = i
          · rw [hji, HG.out] at e
            exact (Option.some.inj e).symm
          · exact HZ.out j z (by omega) e
      · have hne : (z != 0) = true := by simpa using hz0
        go_wp2_with fail
        go_ret
        refine ⟨ret_int ?_, rfl⟩
        have h := HZ.out
        have hg := HG.out
        unfold orOf
        match i, HLT.out with
        | 0, _ =>
          have e : a = z := by simpa using hg
          rw [if_pos (by rw [e]; exact hz0), e]
        | 1, _ =>
          have e : b = z := by simpa using hg
          have e0 : a = 0 := h 0 a (by omega) rfl
          rw [if_neg (by simpa using e0), if_pos (by rw [e]; exact hz0), e]
        | 2, _ =>
          have e : c = z := by simpa using hg
          have e0 : a = 0 := h 0 a (by omega) rfl
          have e1 : b = 0 := h 1 b (by omega) rfl
          rw [if_neg (by simpa using e0), if_neg (by simpa using e1), e]
    · obtain rfl : i = 3 := by omega
      go_wp2_with fail
      go_ret
      have h := HZ.out
      refine ⟨ret_int ?_, rfl⟩
      have e0 : a = 0 := h 0 a (by omega) rfl
      have e1 : b = 0 := h 1 b (by omega) rfl
      have e2 : c = 0 := h 2 c (by omega) rfl
      unfold orOf
      rw [e0, e1, e2]
      rfl
end Go.Proofs.Ytjakhemolecbnaa
end
